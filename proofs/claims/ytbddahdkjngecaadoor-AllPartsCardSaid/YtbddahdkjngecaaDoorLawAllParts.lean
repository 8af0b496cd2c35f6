/- A batch is done whole, or not at all: as its entries one by one, if none of them is refused: for all lists of raw numbers. -/
import Derived.Test.YtbddahdkjngecaaDoorBoxLaw2
import Derived.Test.YtbddahdkjngecaaDoorEntsOf
namespace Go.Proofs.YtbddahdkjngecaaDoor
open Go.RowKit
set_option linter.unusedVariables false

theorem b3 {a b B : Prop} (k : a ∧ b ∧ B) : B := k.2.2
def zeroE : Ent := ⟨0, ⟨#[]⟩, 0, 0, ⟨#[]⟩, ⟨#[]⟩⟩
def zeroA : Array Value := (entsCells (List.replicate 11 zeroE)).toArray
theorem made_zero : madeCells (Value.cells (.agg #[.int .i64 0, .string ⟨#[]⟩, .int .i64 0, .int .i64 0, .string ⟨#[]⟩, .string ⟨#[]⟩])) 66 = zeroA := by kernel_rfl
theorem zeros_at (W : World) (q : Nat) (h : W.heap.size = q) : EsAt (W.alloc (.cells zeroA 31)) (some ⟨q, 0, none⟩) (List.replicate 11 zeroE) := by
  subst h
  have hlit := World.ownsRow_lit (base := W.heap.size) (e := 31) (size := 6) W zeroA 11 (Nat.le_refl _) (by decide) rfl
  exact ownsRow_ents (es := List.replicate 11 zeroE) hlit rfl
set_option maxRecDepth 100000 in
set_option maxHeartbeats 8000000 in
theorem allParts_walk (x : List Chr) (A : Option Addr) (c : Nat) (y : List Chr) (A' : Option Addr) (c' : Nat) (m : Int) (w : World) (hx : x.length ≤ 9223372036854775807) (hA : kChr.Row w A x) (hy : y.length ≤ 9223372036854775807) (hA' : kChr.Row w A' y) (hm : w.cell? ⟨0, 0, none⟩ = some (.int .i64 m)) :
    Calls Tryd.prog 6 #[.slice A x.length c, .slice A' y.length c'] w fun e w' => e = .returned (.bool true) ∧ Below w.heap.size w w' := by
  have hst := state_calls x A c m w hx hA hm
  have hen := fun W (hb : Below w.heap.size w W) => entriesOf_calls y A' c' 10 W hy (hA'.later hb) (by decide)
  have hlen := entsC_len y 10
  have hfo : ∀ e ∈ entsC y 10, formR e = 0 := fun e he => by
    unfold entsC at he
    obtain ⟨c, _, rfl⟩ := List.mem_map.1 he
    exact entC_form c
  have hsm : ∀ e ∈ entsC y 10, SmE e := fun e he => by
    have h := form_ok _ (hfo e he)
    exact ⟨by have := h.bx; omega, by have := h.ds; omega, by have := h.tx; omega⟩
  have hv := vld_st x
  generalize stR x = s at *
  generalize entsC y 10 = es at *
  have all := fun l A A2 A3 c c2 c3 W hA hl hsm hll hm => all_calls s l A A2 A3 c c2 c3 m W hA hv.okC hl hsm hll hm
  have hq := allR_eq s es ((vld_iff s).2 hv) (by omega)
  have Hq := Lib.hid hq
  have Hst := Lib.hid hst
  have Hen := Lib.hid hen
  have Hfo := Lib.hid hfo
  have Hsm := Lib.hid hsm
  have All := Lib.hid all
  have Hv := Lib.hid hv
  have Hm := Lib.hid hm
  clear hst hen hfo hsm all hv hm hA hA' hq
  go_enter Tryd.func6, Tryd.ntmps6
  go_wp2_with fail
  refine Hst.out.mono ?_
  rintro e w1 ⟨A1, c1, B1, d1, rfl, hS1, hb1⟩
  have hal1 : Below w1.heap.size w1 (w1.alloc (.cells #[.slice A1 s.boxes.length c1, .slice B1 s.spool.length d1] 28)) := (Below.refl _ w1).alloc (Nat.le_refl _) _
  have hb2 := bel_tr hb1 hal1
  have hX := Bk.new w1 [.slice A1 s.boxes.length c1, .slice B1 s.spool.length d1] 28
  have hS2 := hS1.later hal1
  clear hS1 hb1 Hst hal1
  go_wp2_with fail
  generalize w1.alloc (.cells #[.slice A1 s.boxes.length c1, .slice B1 s.spool.length d1] 28) = w2 at *
  refine (Hen.out _ hb2).mono ?_
  rintro e w3 ⟨v, rfl, hrow, hb3⟩
  obtain ⟨Ae, ce, rfl⟩ := own_sliceE hrow
  have hes := ownsRow_ents hrow rfl
  have hX3 := hX.later hb3
  have hS3 := hS2.later hb3
  have hb4 := bel_tr hb2 hb3
  generalize w1.heap.size = t5 at *
  clear hX hS2 hb2 hb3 Hen hrow
  have x0 := hX3.cell 0 _ rfl
  have x1 := hX3.cell 1 _ rfl
  go_wp2_with fail
  refine (All.out es _ _ _ _ _ _ _ hS3 hes Hsm.out (by omega) (cell_later hb4 Hm.out)).mono ?_
  intro e w5 hall
  obtain ⟨A9, c9, A92, c92, rfl, hat9, hown9, hb6⟩ := allOk_at hall
  generalize hr : allR s es = r at *
  have Hr := Lib.hid hr
  clear hr hall hown9
  have hbB : Below w5.heap.size w5 (w5.alloc (.cells #[.slice A9 r.2.boxes.length c9, .slice A92 r.2.spool.length c92] 28)) := (Below.refl _ w5).alloc (Nat.le_refl _) _
  have hZ6 := Bk.new w5 [.slice A9 r.2.boxes.length c9, .slice A92 r.2.spool.length c92] 28
  have hbC := hb6.trans (hbB.mono hb6.size)
  have hX6 := hX3.later hbC
  have HS6 := Lib.hid (hS3.later hbC)
  have Hes6 := Lib.hid (hes.later hbC)
  have Hat6 := Lib.hid (hat9.later hbB)
  have Hb8 := Lib.hid (bel_tr hb4 hbC)
  clear hX3 hS3 hes hat9 hb4 hb6 hbB hbC x0 x1
  have x0 := hX6.cell 0 _ rfl
  have x1 := hX6.cell 1 _ rfl
  have h67 : (w5.alloc (.cells #[.slice A9 r.2.boxes.length c9, .slice A92 r.2.spool.length c92] 28)).heap.size = w5.heap.size + 1 := by simp
  have H67 := Lib.hid h67
  clear h67
  go_upto_region 5 with fail
  generalize w5.alloc (.cells #[.slice A9 r.2.boxes.length c9, .slice A92 r.2.spool.length c92] 28) = w6 at *
  generalize w5.heap.size = t7 at *
  have hT := Bk.new w6 [.slice A1 s.boxes.length c1, .slice B1 s.spool.length d1] 28
  rw [H67.out] at hT
  have hbT : Below w6.heap.size w6 (w6.alloc (.cells #[.slice A1 s.boxes.length c1, .slice B1 s.spool.length d1] 28)) := (Below.refl _ w6).alloc (Nat.le_refl _) _
  have Hat0 := Lib.hid (HS6.out.later hbT)
  have HX6 := Lib.hid hX6
  have HZ6 := Lib.hid hZ6
  have hX6l := hX6.lt
  have hZ6l := hZ6.lt
  clear hX6 hZ6 x0 x1
  generalize w6.alloc (.cells #[.slice A1 s.boxes.length c1, .slice B1 s.spool.length d1] 28) = w7 at *
  have HbT := Lib.hid hbT
  clear hbT
  go_wp2_with fail
  go_loopw [10] (fun i wr => ∃ (k : Nat) (Ak : Option Addr) (ck : Nat) (Ak2 : Option Addr) (ck2 : Nat) (u : StS), k ≤ es.length ∧ i = .int .i64 k ∧ Hid (goR s es = goR u (es.drop k)) ∧ Hid (Vld u) ∧ Bk wr (t7 + 1) [.slice Ak u.boxes.length ck, .slice Ak2 u.spool.length ck2] 28 ∧ Hid (StAt wr Ak ck Ak2 ck2 u) ∧ Hid (Below w6.heap.size w6 wr)) (fun i _ => es.length - (intOf i).toNat)
  case atStart => exact ⟨0, _, _, _, _, s, Nat.zero_le _, rfl, Lib.hid rfl, Hv, hT, Hat0, HbT⟩
  case round =>
    obtain ⟨k, Ak, ck, Ak2, ck2, u, hk, rfl, Hgo, Hvu, hT', Hat, Hb⟩ := hrel
    clear hT Hat0 HbT
    by_cases hlt : k < es.length
    · obtain ⟨lb, lo, rfl, c0, c1', c2, c3, c4, c5⟩ := Hes6.out.later Hb.out k hlt
      have hd := bel_drew wr
      have c0 := cell_later hd c0
      have c1' := cell_later hd c1'
      have c2 := cell_later hd c2
      have c3 := cell_later hd c3
      have c4 := cell_later hd c4
      have c5 := cell_later hd c5
      have t0 := cell_later hd (hT'.cell 0 _ rfl)
      have t1 := cell_later hd (hT'.cell 1 _ rfl)
      have hdr : es.drop k = es[k] :: es.drop (k + 1) := List.drop_eq_getElem_cons hlt
      have hfe := Hfo.out es[k] (List.getElem_mem hlt)
      have hse := Hsm.out es[k] (List.getElem_mem hlt)
      have hgo := Hgo.out
      rw [hdr, goR_cons, if_neg (by rw [hfe]; simp)] at hgo
      have hone := allR_one Hvu.out es[k] hfe
      generalize es[k] = en at *
      have hvn : (allR u [en]).1 = 0 → Vld (allR u [en]).2 := fun h => vld_all u [en] h
      have hap := fun W (hW : Below wr.drew.heap.size wr.drew W) => aply_ok u en Ak Ak2 ck ck2 m W ((Hat.out.later hd).later hW) Hvu.out hse (cell_later hW (cell_later hd (cell_later (bel_tr Hb8.out Hb.out) Hm.out)))
      have hmk := fun (W : World) (hW : Below wr.drew.heap.size wr.drew W) => And.intro (cell_later hW t0) (And.intro (cell_later hW t1) (And.intro (cell_later hW c0) (And.intro (cell_later hW c1') (And.intro (cell_later hW c2) (And.intro (cell_later hW c3) (And.intro (cell_later hW c4) (And.intro (cell_later hW c5) hW)))))))
      -- what the round's Apply answers
      have hrd : ((allR u [en]).1 ≠ 0 → r = ((allR u [en]).1, noneS)) ∧ ((allR u [en]).1 = 0 → goR s es = goR (allR u [en]).2 (es.drop (k + 1))) := by
        by_cases hz : (applyR u en).1 ≠ 0
        · rw [if_pos hz] at hone hgo
          rw [hone]
          refine ⟨fun _ => ?_, fun h => absurd h hz⟩
          have h1 := Hq.out.1
          rw [hgo] at h1
          have h2 := allR_err s es (by rw [Hr.out, h1]; exact hz)
          rw [Hr.out] at h2
          exact Prod.ext h1 h2
        · rw [if_neg hz] at hone hgo
          rw [hone]
          exact ⟨fun h => absurd rfl h, fun _ => hgo⟩
      have Hrd := Lib.hid hrd
      have Hvn := Lib.hid hvn
      have Hmk := Lib.hid hmk
      have Hap := Lib.hid hap
      clear hap hmk hse hfe hone hgo hdr hrd hvn
      generalize allR u [en] = r' at *
      obtain ⟨k', b', u', f', d', t'⟩ := en
      unfold entVal at Hap
      have hk0 : (0 : Int) ≤ (k : Int) := by omega
      have hkn : (k : Int) < (es.length : Int) := by omega
      have hKK := Hmk.out wr.drew (Below.refl _ _)
      go_wp2_with fail
      go_region_held3 (fun W => W.cell? ⟨t7 + 1, 0, none⟩ = some (.slice Ak u.boxes.length ck) ∧ W.cell? ⟨t7 + 1, 1, none⟩ = some (.slice Ak2 u.spool.length ck2) ∧ W.cell? ⟨lb, lo + k * 6, none⟩ = some (.int .i64 k') ∧ W.cell? ⟨lb, lo + k * 6 + 1, none⟩ = some (.string b') ∧ W.cell? ⟨lb, lo + k * 6 + 2, none⟩ = some (.int .i64 u') ∧ W.cell? ⟨lb, lo + k * 6 + 3, none⟩ = some (.int .i64 f') ∧ W.cell? ⟨lb, lo + k * 6 + 4, none⟩ = some (.string d') ∧ W.cell? ⟨lb, lo + k * 6 + 5, none⟩ = some (.string t') ∧ Below wr.drew.heap.size wr.drew W) (first | exact hKK | exact Hmk.out _ (bel_al (b8 (by first | assumption | exact hS)) _) | (refine Hmk.out _ (Below.setCell (Below.setCell (b8 (by first | assumption | exact hS)) ?_ _) ?_ _) <;> first | exact Nat.le_refl _ | exact hq9))
        (first
          | (go_at_call 13; (with_reducible refine (Hap.out _ ?_).mono ?_); exact b8 (by first | assumption | exact hS); rintro e w9 ⟨A10, c10, A102, c102, rfl, hat9, hown9, hb9⟩; have hKK := Hmk.out w9 (bel_tr (b8 (by first | assumption | exact hS)) hb9); have hq9 := (b8 hKK).size; (first | have hB9 : Bk w9 wr.heap.size [.slice none 0 0, .slice none 0 0] 28 := (Bk.new wr.drew [.slice none 0 0, .slice none 0 0] 28).later hb9 | skip); try (have y0 := hB9.cell 0 _ rfl; have y1 := hB9.cell 1 _ rfl; have f0 := hB9.frozen 0; have f1 := hB9.frozen 1)))
      all_goals (
        first
          | (have hW := afk_set (b8 hKK) (show Bk w9 wr.heap.size [.slice none 0 0, .slice none 0 0] 28 from hB9) hown9 (by simp) (Nat.le_refl _)
             clear hKK hat9 hown9 hb9 hq9 hd t0 t1 c0 c1' c2 c3 c4 c5 Hmk Hap
             generalize (w9.setCell ⟨wr.heap.size, 0, none⟩ (.slice A10 r'.2.boxes.length c10)).setCell ⟨wr.heap.size, 1, none⟩ (.slice A102 r'.2.spool.length c102) = W at *)
          | (have hW := afk_new (b8 hKK) hown9 (Nat.le_refl _)
             clear hKK hat9 hown9 hb9 hq9 hd t0 t1 c0 c1' c2 c3 c4 c5 Hmk Hap
             generalize w9.alloc (.cells #[.slice A10 r'.2.boxes.length c10, .slice A102 r'.2.spool.length c102] 28) = W at *
             generalize w9.heap.size = q at *)
        have q0 := hW.b.cell 0 _ rfl
        have q1 := hW.b.cell 1 _ rfl
        have hT2 := hT'.later hW.l
        have t0 := hT2.cell 0 _ rfl
        have t1 := hT2.cell 1 _ rfl
        have g0 := hT2.frozen 0
        have g1 := hT2.frozen 1
        have hb2 := Hb.out.trans (hW.l.mono Hb.out.size)
        have hlt3 := hT'.lt
        have Ho := Lib.hid hW.o
        have HT2 := Lib.hid hT2
        have Hb2 := Lib.hid hb2
        clear hW hT' Hat Hb hT2 hb2
        by_cases hz : r'.1 = 0
        · have Hgo2 := Lib.hid (Hrd.out.2 hz)
          have Hv2 := Lib.hid (Hvn.out hz)
          obtain ⟨B, vm, p, hB, hO⟩ := Ho.out hz
          have hO2 := (hO.setOther (t7 + 1) 0 (.slice A10 r'.2.boxes.length c10) (by omega)).setOther (t7 + 1) 1 (.slice A102 r'.2.spool.length c102) (by omega)
          have hat3 := hO2.at rfl rfl
          have Hat3 := Lib.hid hat3
          have hT3 := (HT2.out.set 0 (.slice A10 r'.2.boxes.length c10)).set 1 (.slice A102 r'.2.spool.length c102)
          have hb3 := (Hb2.out.setCell (p := ⟨t7 + 1, 0, none⟩) (Nat.le_of_eq H67.out) (.slice A10 r'.2.boxes.length c10)).setCell (p := ⟨t7 + 1, 1, none⟩) (Nat.le_of_eq H67.out) (.slice A102 r'.2.spool.length c102)
          have Hb3 := Lib.hid hb3
          have HT3 := Lib.hid hT3
          rw [hz]
          clear hz hO hO2 hat3 hT3 hb3 HT2 Hb2 Ho Hrd Hvn
          go_wp2_with fail
          go_roundw
          case rel => exact ⟨k + 1, A10, c10, A102, c102, r'.2, by omega, by go_num, Hgo2, Hv2, HT3.out, Hat3, Hb3⟩
          case measure => simp [intOf]; omega
        · have hr := Hrd.out.1 hz
          subst hr
          have hZ8 := HZ6.out.later Hb2.out
          have z0 := hZ8.cell 0 _ rfl
          have hne : (r'.1 != 0) = true := by simpa using hz
          have hb9 := Lib.hid (bel_tr Hb8.out Hb2.out)
          clear hz Ho Hrd Hvn hZ8 HT2
          generalize r'.1 = z at *
          go_wp2_with fail
          go_ret
          exact ⟨rfl, hb9.out⟩)
    · obtain rfl : k = es.length := by omega
      have hgo := Hgo.out
      rw [List.drop_length] at hgo
      have hgo2 : goR s es = (0, u) := hgo
      have hr := Hq.out.2 (by rw [hgo2])
      rw [hgo2] at hr
      subst hr
      clear hgo hgo2 hlt
      have hd := bel_drew wr
      have hX8 := HX6.out.later (Hb.out.trans (hd.mono Hb.out.size))
      have x0 := hX8.cell 0 _ rfl
      have x1 := hX8.cell 1 _ rfl
      have hmk := fun (W : World) (hW : Below wr.drew.heap.size wr.drew W) => And.intro (cell_later hW x0) (And.intro (cell_later hW x1) hW)
      have Hmk := Lib.hid hmk
      clear hmk hX8
      have hKK := Hmk.out wr.drew (Below.refl _ _)
      obtain ⟨i0, hi, hz0, hz1, hz2⟩ := info_parts info_ent
      have hms : ∀ W : World, Sem.run Tryd.prog (Instr.makeSlice 26 (.int .i64 11) (.int .i64 11)) W = .ok (.slice (some ⟨W.heap.size, 0, none⟩) 11 11) (W.alloc (.cells zeroA 31)) := fun W => by
        have h := run_make (P := Tryd.prog) W 26 31 i0 _ Tryd.underlying26 hi hz0 .i64 .i64 11 11 (by decide) (by decide) (by rw [hz2]; decide) (by decide)
        rw [hz1] at h
        simp only [show (11 : Int).toNat = 11 from rfl, show 11 * 6 = 66 from rfl, made_zero] at h
        exact h
      have hr11 : allR s (List.replicate 11 zeroE) = (1, noneS) := by
        unfold allR
        rw [if_neg (by rw [(vld_iff s).2 Hv.out]; simp), if_pos (by decide)]
      have hall : ∀ (W : World) (q : Nat), Below wr.drew.heap.size wr.drew W → EsAt W (some ⟨q, 0, none⟩) (List.replicate 11 zeroE) → Calls Tryd.prog 17 #[.agg #[.slice A1 s.boxes.length c1, .slice B1 s.spool.length d1], .slice (some ⟨q, 0, none⟩) 11 11] W fun e w' => AplyOk W (1, noneS) e w' := fun W q hW hE => by
        have h0 := (hd.trans (hW.mono (Nat.le_refl _)))
        have h := All.out (List.replicate 11 zeroE) A1 B1 (some ⟨q, 0, none⟩) c1 d1 11 W (HS6.out.later (Hb.out.trans (h0.mono Hb.out.size))) hE (fun e he => by
          rw [List.eq_of_mem_replicate he]
          exact ⟨by decide, by decide, by decide⟩) (by decide) (cell_later (Hb8.out.trans ((Hb.out.trans (h0.mono Hb.out.size)).mono Hb8.out.size)) Hm.out)
        rw [hr11] at h
        exact h.mono fun _ _ h => allOk_at (s := s) (l := List.replicate 11 zeroE) (by rw [hr11]; exact h) |> fun h => by rw [hr11] at h; exact h
      have Hall11 := Lib.hid hall
      clear hall hr11
      go_wp2_with fail
      go_region_held3 (fun W => W.cell? ⟨t5, 0, none⟩ = some (.slice A1 s.boxes.length c1) ∧ W.cell? ⟨t5, 1, none⟩ = some (.slice B1 s.spool.length d1) ∧ Below wr.drew.heap.size wr.drew W) (first | exact hKK | exact Hmk.out _ (bel_al (b3 (by first | assumption | exact hS)) _) | (refine Hmk.out _ (Below.setCell (Below.setCell (b3 (by first | assumption | exact hS)) ?_ _) ?_ _) <;> first | exact Nat.le_refl _ | exact hq9 | exact Nat.le_succ _))
        (first
          | (go_at_call 17; (with_reducible refine (Hall11.out _ _ ?_ ?_).mono ?_); exact b3 (by first | assumption | exact hS); (first | exact zeros_at _ _ rfl | exact zeros_at _ _ (by simp) | exact (zeros_at wr.drew wr.heap.size rfl).later ((Below.refl _ _).alloc (Nat.le_refl _) _)); rintro e w9 ⟨A10, c10, A102, c102, rfl, _, _, hb9⟩; have hKK := Hmk.out w9 (bel_tr (b3 (by first | assumption | exact hS)) hb9); have hq9 := (b3 hKK).size; (first | have hB9 : Bk w9 wr.heap.size [.slice none 0 0, .slice none 0 0] 28 := ((Bk.new wr.drew [.slice none 0 0, .slice none 0 0] 28).alloc _).later hb9 | have hB9 : Bk w9 (wr.heap.size + 1) [.slice none 0 0, .slice none 0 0] 28 := (by have h := (Bk.new (wr.drew.alloc (.cells zeroA 31)) [.slice none 0 0, .slice none 0 0] 28).later hb9; simpa using h) | skip); try (have y0 := hB9.cell 0 _ rfl; have y1 := hB9.cell 1 _ rfl; have f0 := hB9.frozen 0; have f1 := hB9.frozen 1)))
      all_goals (
        obtain ⟨v0, v1, hbW⟩ := ‹_ ∧ _ ∧ Below wr.drew.heap.size wr.drew _›
        clear hKK
        have hbV := (hd.trans (hbW.mono (Nat.le_refl _)))
        have hT9 := hT'.later hbV
        have hZ9 := HZ6.out.later (Hb.out.trans (hbV.mono Hb.out.size))
        have hu9 := Hat.out.later hbV
        have ht9 := Hat6.out.later (Hb.out.trans (hbV.mono Hb.out.size))
        have hb9 := bel_tr Hb8.out (Hb.out.trans (hbV.mono Hb.out.size))
        have hsm9 := same_state u _ _ _ _ _ _ _ _ _ ht9 hu9 (by have := Hvu.out.nb; omega) (by have := Hvu.out.ns; omega) (fun b hb => by have := (Hvu.out.bx b hb).ml; omega)
        have Hsm9 := Lib.hid hsm9
        have p0 := hT9.cell 0 _ rfl
        have p1 := hT9.cell 1 _ rfl
        have z0 := hZ9.cell 0 _ rfl
        have z1 := hZ9.cell 1 _ rfl
        have Hb9 := Lib.hid hb9
        clear hbW hbV hT9 hZ9 hu9 ht9 hb9 hsm9 hT' x0 x1 v0 v1
        go_wp2_with fail
        refine Hsm9.out.mono ?_
        rintro e wf ⟨rfl, hbf⟩
        have Hbf := Lib.hid (bel_tr Hb9.out hbf)
        clear hbf
        go_wp2_with fail
        go_ret
        exact ⟨rfl, Hbf.out⟩)
end Go.Proofs.YtbddahdkjngecaaDoor
