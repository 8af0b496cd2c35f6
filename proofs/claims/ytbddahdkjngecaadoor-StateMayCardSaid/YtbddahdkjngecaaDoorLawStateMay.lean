/- Whatever is done, a state may be: Uids rise, and there is never more than the Quota: for every list of raw numbers. -/
import Derived.Test.YtbddahdkjngecaaDoorBoxLaw2
namespace Go.Proofs.YtbddahdkjngecaaDoor
open Go.RowKit
set_option linter.unusedVariables false

def badS : StS := ⟨[⟨mkS [97], 0, []⟩], []⟩
theorem bad_check : checkR badS = 11 := by decide +kernel
theorem bad_at {w : World} {b : Nat} (h : Bk w b [.string ⟨#[97]⟩, .int .i64 0, .slice none 0 0] 39) : StAt w (some ⟨b, 0, none⟩) 1 none 0 badS := by
  refine ⟨fun j x hj => ?_, Nat.le_refl _, fun j h => by simp [badS] at h, fun _ => rfl⟩
  match j, hj with
  | 0, hj =>
    simp [badS] at hj
    subst hj
    exact ⟨b, 0, none, 0, rfl, h.cell 0 _ rfl, h.cell 1 _ rfl, h.cell 2 _ rfl, ⟨Nat.le_refl _, fun _ => rfl⟩, fun i m hi => by simp at hi⟩
  | j + 1, hj => simp [badS] at hj
theorem bad_ok : OkC badS := ⟨fun b hb => by
  simp [badS] at hb
  subst hb
  exact ⟨by decide, by decide, fun m hm => by simp at hm⟩, by decide, by decide, fun x hx => by simp [badS] at hx⟩
theorem step_len (s : StS) (x : Ent) (h : 0 < s.boxes.length) : 0 < (applyR s x).2.boxes.length := by
  have hadd : ∀ i fl t, 0 < (addR s i fl t).2.boxes.length := fun i fl t => by
    unfold addR
    split
    · exact h
    · split
      · exact h
      · simpa using h
  unfold applyR
  repeat' split
  all_goals first | exact h | exact hadd _ _ _ | (simp; done) | simpa using h
theorem st_len (x : List Chr) : 0 < (stR x).boxes.length := by
  unfold stR
  have : ∀ (l : List Ent) (s : StS), Vld s → (∀ e ∈ l, formR e = 0) → 0 < s.boxes.length → 0 < (l.foldl stepS s).boxes.length := by
    intro l
    induction l with
    | nil => intro s _ _ h; exact h
    | cons e r ih =>
      intro s hv hf h
      refine ih _ (vld_step hv e) (fun e he => hf e (List.mem_cons_of_mem _ he)) ?_
      unfold stepS
      have ha := allR_one hv e (hf e List.mem_cons_self)
      by_cases hz : (applyR s e).1 = 0
      · rw [if_neg (by rw [hz]; simp)] at ha
        rw [ha, if_pos rfl]
        exact step_len s e h
      · rw [if_pos hz] at ha
        rw [ha, if_neg hz]
        exact h
  refine this _ _ vld_inb (fun e he => ?_) (by decide)
  obtain ⟨c, _, rfl⟩ := List.mem_map.1 he
  exact entC_form c
set_option maxRecDepth 100000 in
set_option maxHeartbeats 8000000 in
theorem stateMay_walk (x : List Chr) (A : Option Addr) (c : Nat) (m : Int) (w : World) (hx : x.length ≤ 9223372036854775807) (hA : kChr.Row w A x) (hm : w.cell? ⟨0, 0, none⟩ = some (.int .i64 m)) :
    Calls Tryd.prog 8 #[.slice A x.length c] w fun e w' => e = .returned (.bool true) ∧ Below w.heap.size w w' := by
  have hst := state_calls x A c m w hx hA hm
  have hv := vld_st x
  have hlen := st_len x
  generalize stR x = s at *
  have hnb := hv.nb
  have hbx := hv.bx
  have hsz := hv.sz
  have hz := (vld_iff s).2 hv
  have szs := fun A A2 c c2 W hA hm => sizeV_calls s hv A A2 c c2 m W hA hm
  have chk := fun A A2 c c2 W hA hm => checkS_calls s A A2 c c2 m W hA hv.okC hm
  have bad := fun A A2 c c2 W hA hm => checkS_calls badS A A2 c c2 m W hA bad_ok hm
  have Hz := Lib.hid hz
  have Hst := Lib.hid hst
  have Szs := Lib.hid szs
  have Chk := Lib.hid chk
  have Bad := Lib.hid bad
  have Hbx := Lib.hid hbx
  have Hm := Lib.hid hm
  clear hst szs chk bad hv hbx hm hA hz
  go_enter Tryd.func8, Tryd.ntmps8
  go_wp2_with fail
  refine Hst.out.mono ?_
  rintro e w1 ⟨A1, c1, B1, d1, rfl, hS1, hb1⟩
  have hal1 : Below w1.heap.size w1 (w1.alloc (.cells #[.slice A1 s.boxes.length c1, .slice B1 s.spool.length d1] 28)) := (Below.refl _ w1).alloc (Nat.le_refl _) _
  have hb2 := bel_tr hb1 hal1
  have hX := Bk.new w1 [.slice A1 s.boxes.length c1, .slice B1 s.spool.length d1] 28
  have hS2 := hS1.later hal1
  have x0 := hX.cell 0 _ rfl
  have x1 := hX.cell 1 _ rfl
  clear hS1 hb1 Hst hal1
  go_wp2_with fail
  generalize w1.alloc (.cells #[.slice A1 s.boxes.length c1, .slice B1 s.spool.length d1] 28) = w2 at *
  refine (Szs.out _ _ _ _ _ hS2 (cell_later hb2 Hm.out)).mono ?_
  rintro e w3 ⟨rfl, hb3⟩
  have hX3 := hX.later hb3
  have HS3 := Lib.hid (hS2.later hb3)
  have Hb4 := Lib.hid (bel_tr hb2 hb3)
  clear hX hS2 hb2 hb3 x0 x1 Szs
  generalize w1.heap.size = t at *
  go_wp2_with fail
  go_loopw [6, 7] (fun n i wr => ∃ k : Nat, k ≤ s.boxes.length ∧ n = .int .i64 (boxesZ (s.boxes.take k)) ∧ i = .int .i64 k ∧ Bk wr t [.slice A1 s.boxes.length c1, .slice B1 s.spool.length d1] 28 ∧ Hid (Below w3.heap.size w3 wr)) (fun _ i _ => s.boxes.length - (intOf i).toNat)
  case atStart => exact ⟨0, Nat.zero_le _, rfl, rfl, hX3, Lib.hid (Below.refl _ _)⟩
  case round =>
    obtain ⟨k, hk, rfl, rfl, hX, Hb⟩ := hrel
    clear hX3
    have x0 := hX.cell 0 _ rfl
    have x1 := hX.cell 1 _ rfl
    by_cases hlt : k < s.boxes.length
    · have hsn := boxesZ_snoc s.boxes k hlt
      have hbz := boxesZ_le (s.boxes.take k) (fun b hb => by
        have hv := Hbx.out b (List.mem_of_mem_take hb)
        exact ⟨by have := hv.ml; omega, fun m hm => (hv.ms m hm).2.2.2.2⟩)
      have hbl : (s.boxes.take k).length ≤ 6 := by rw [List.length_take]; omega
      have hvb := Hbx.out s.boxes[k] (List.getElem_mem hlt)
      have hget : s.boxes[k]? = some s.boxes[k] := by simp [hlt]
      generalize boxesZ (s.boxes.take k) = Z at *
      generalize (s.boxes.take k).length = q at *
      generalize s.boxes[k] = b at *
      have hk0 : (0 : Int) ≤ (k : Int) := by omega
      have hkn : (k : Int) < (s.boxes.length : Int) := by omega
      have hml := hvb.ml
      have Hvb := Lib.hid hvb
      have Hsn := Lib.hid hsn
      have Hget := Lib.hid hget
      have HX := Lib.hid hX
      clear hsn hvb hget hX
      go_wp2_with fail
      clear x0 x1
      go_loopw [6, 8, 9] (fun n la i wq => ∃ (j : Nat) (l0 : Int), j ≤ b.mails.length ∧ n = .int .i64 ((Z + mailsZ (b.mails.take j) : Nat) : Int) ∧ la = .int .i64 l0 ∧ i = .int .i64 j ∧ Hid (∀ q (h : q < b.mails.length), j ≤ q → l0 < b.mails[q].uid) ∧ Hid (Below wr.heap.size wr wq)) (fun _ _ i _ => b.mails.length - (intOf i).toNat)
      case atStart => exact ⟨0, 0, Nat.zero_le _, by simp [mailsZ], rfl, rfl, Lib.hid (fun q h _ => (Hvb.out.ms b.mails[q] (List.getElem_mem h)).1), Lib.hid (Below.refl _ _)⟩
      case round =>
        obtain ⟨j, l0, hj, rfl, rfl, rfl, Hl0, Hq⟩ := hrel
        have hX8 := HX.out.later Hq.out
        obtain ⟨g, off, Am, cm, rfl, d0, d1', d2, _, hmA⟩ := HS3.out.bx.later (Hb.out.trans (Hq.out.mono Hb.out.size)) k b Hget.out
        have x0 := hX8.cell 0 _ rfl
        have x1 := hX8.cell 1 _ rfl
        by_cases hjt : j < b.mails.length
        · obtain ⟨ga, oa, rfl, f0, f1, f2⟩ := hmA j b.mails[j] (by simp [hjt])
          have hsm := mailsZ_snoc b.mails j hjt
          have hmz := mailsZ_le (b.mails.take j) (fun m hm => (Hvb.out.ms m (List.mem_of_mem_take hm)).2.2.2.2)
          have hml2 : (b.mails.take j).length ≤ 31 := by rw [List.length_take]; omega
          have hmt := Hvb.out.ms b.mails[j] (List.getElem_mem hjt)
          have hl1 := Hl0.out j hjt (Nat.le_refl _)
          have hl2 : ∀ q (h : q < b.mails.length), j + 1 ≤ q → b.mails[j].uid < b.mails[q].uid := fun q h hq => by
            have := List.pairwise_iff_getElem.1 Hvb.out.up j q (by simpa using hjt) (by simpa using h) (by omega)
            simpa using this
          generalize mailsZ (b.mails.take j) = Y at *
          generalize (b.mails.take j).length = q2 at *
          have Hl2 := Lib.hid hl2
          clear hl2
          generalize b.mails[j] = mj at *
          obtain ⟨u, f, tx⟩ := mj
          simp only at f0 f1 f2 hsm hmt hl1 Hl2
          obtain ⟨hm1, hm2, hm3, hm4, hm5⟩ := hmt
          have hle : ¬ u ≤ l0 := by omega
          have hge : ¬ b.next ≤ u := by omega
          have hj0 : (0 : Int) ≤ (j : Int) := by omega
          have hjn : (j : Int) < (b.mails.length : Int) := by omega
          have Hsm := Lib.hid hsm
          have hbA : Below wr.heap.size wr (wr.alloc (.cells #[.int .i64 u, .int .i64 f, .string tx] 41)) := (Below.refl _ wr).alloc (Nat.le_refl _) _
          have hB := Bk.new wr [.int .i64 u, .int .i64 f, .string tx] 41
          have hX9 := hX8.later hbA
          have d1a := cell_later hbA d1'
          have Hq2 := Lib.hid (bel_tr Hq.out hbA)
          clear hsm hmA hX8
          go_upto_region 12 with fail
          generalize wr.alloc (.cells #[.int .i64 u, .int .i64 f, .string tx] 41) = wz at *
          clear x0 x1 d0 d1' d2 f0 f1 f2
          have x0 := hX9.cell 0 _ rfl
          have x1 := hX9.cell 1 _ rfl
          have b0 := hB.cell 0 _ rfl
          have b1 := hB.cell 1 _ rfl
          have b2 := hB.cell 2 _ rfl
          clear hX9 hB hbA
          go_quiet (fail)
          go_wp2_with fail
          go_roundw
          case rel => exact ⟨j + 1, u, by omega, by rw [Hsm.out]; go_num, rfl, by go_num, Hl2, Lib.hid (bel_drewN Hq2.out _)⟩
          case measure => simp [intOf]; omega
        · obtain rfl : j = b.mails.length := by omega
          rw [List.take_length]
          have Hb5 := Lib.hid (Hb.out.trans (Hq.out.mono Hb.out.size))
          have HX8 := Lib.hid hX8
          clear hmA hX8
          go_wp2_with fail
          go_roundw
          case rel => exact ⟨k + 1, by omega, by rw [Hsn.out], by go_num, HX8.out, Hb5⟩
          case measure => simp [intOf]; omega
    · obtain rfl : k = s.boxes.length := by omega
      rw [List.take_length]
      have hsz2 : boxesZ s.boxes = sizeR s := rfl
      rw [hsz2]
      clear hsz2 hlt
      have hb9 := Hb4.out.trans (Hb.out.mono Hb4.out.size)
      have hbC : Below wr.heap.size wr ((wr.alloc (.cells #[.string ⟨#[97]⟩, .int .i64 0, .slice none 0 0] 39)).alloc (.cells #[.slice (some ⟨wr.heap.size, 0, none⟩) 1 1, .slice none 0 0] 28)) := ((Below.refl _ wr).alloc (Nat.le_refl _) _).alloc (by simp) _
      have hP := (Bk.new wr [.string ⟨#[97]⟩, .int .i64 0, .slice none 0 0] 39).alloc (.cells #[.slice (some ⟨wr.heap.size, 0, none⟩) 1 1, .slice none 0 0] 28)
      have hQ := Bk.new (wr.alloc (.cells #[.string ⟨#[97]⟩, .int .i64 0, .slice none 0 0] 39)) [.slice (some ⟨wr.heap.size, 0, none⟩) 1 1, .slice none 0 0] 28
      rw [show (wr.alloc (.cells #[.string ⟨#[97]⟩, .int .i64 0, .slice none 0 0] 39)).heap.size = wr.heap.size + 1 by simp] at hQ
      have hX2 := hX.later hbC
      have hS9 := HS3.out.later (Hb.out.trans (hbC.mono Hb.out.size))
      have hb10 := bel_tr hb9 hbC
      go_upto_region 17 with fail
      generalize (wr.alloc (.cells #[.string ⟨#[97]⟩, .int .i64 0, .slice none 0 0] 39)).alloc (.cells #[.slice (some ⟨wr.heap.size, 0, none⟩) 1 1, .slice none 0 0] 28) = w5 at *
      clear x0 x1 hX hbC hb9
      have x0 := hX2.cell 0 _ rfl
      have x1 := hX2.cell 1 _ rfl
      go_wp2_with fail
      refine (Chk.out _ _ _ _ _ hS9 (cell_later hb10 Hm.out)).mono ?_
      rintro e w6 ⟨rfl, hb11⟩
      rw [Hz.out]
      have hX3 := hX2.later hb11
      have hQ3 := hQ.later hb11
      have hP3 := hP.later hb11
      have hb12 := bel_tr hb10 hb11
      clear x0 x1 hX2 hQ hP hb10 hb11 hS9
      have x0 := hX3.cell 0 _ rfl
      have x1 := hX3.cell 1 _ rfl
      have q0 := hQ3.cell 0 _ rfl
      have q1 := hQ3.cell 1 _ rfl
      go_wp2_with fail
      refine (Bad.out _ _ _ _ _ (bad_at hP3) (cell_later hb12 Hm.out)).mono ?_
      rintro e w7 ⟨rfl, hb13⟩
      rw [bad_check]
      have hX4 := hX3.later hb13
      have Hb14 := Lib.hid (bel_tr hb12 hb13)
      clear x0 x1 q0 q1 hX3 hQ3 hP3 hb12 hb13
      have x0 := hX4.cell 0 _ rfl
      have x1 := hX4.cell 1 _ rfl
      have hz1 : ((sizeR s : Nat) : Int) ≤ 6000 := by omega
      have hz2 : (0 : Int) < (s.boxes.length : Int) := by omega
      clear hX4
      generalize sizeR s = zz at *
      go_wp2_with fail
      go_ret
      exact ⟨rfl, Hb14.out⟩
end Go.Proofs.YtbddahdkjngecaaDoor
