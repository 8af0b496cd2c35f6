/- A state is what its batches make, one behind the other; those of others do not touch it: for every list of raw numbers and every number. -/
import Derived.Test.YtpncahklapfoaaaDoorFold
import Derived.Test.YtpncahklapfoaaaDoorBkOf
namespace Go.Proofs.YtpncahklapfoaaaDoor
open Go.RowKit
set_option linter.unusedVariables false

theorem RowQ.at {w : World} {B n c : Nat} {A : Option Addr} {q : List (BatS × Value)} (h : RowQ w B (.slice A n c) q) (j : Nat) (p : BatS × Value) (hj : q[j]? = some p) :
    ∃ g Ae ce, A = some ⟨g, 0, none⟩ ∧ w.cell? ⟨g, 0 + j * 2, none⟩ = some (.int .i64 p.1.user) ∧ w.cell? ⟨g, 0 + j * 2 + 1, none⟩ = some (.slice Ae p.1.es.length ce) ∧ w.ownsRow B 63 6 (.slice Ae p.1.es.length ce) p.1.es.length (entsCells p.1.es) := by
  have hjl : j < q.length := (List.getElem?_eq_some_iff.1 hj).1
  obtain ⟨g, c2, e, _, _⟩ := h.1.form (by omega)
  obtain ⟨rfl, rfl, rfl⟩ := Value.slice.inj e
  have hc : ∀ i, i < 2 → w.cell? ⟨g, 0 + j * 2 + i, none⟩ = (batCells p)[i]? := fun i hi => by
    rw [Nat.zero_add]
    exact (h.1.cellAt (j * 2 + i) (by omega)).trans (flat_get batCells 2 (fun _ => rfl) _ j p hj i hi)
  have hr := h.2 p (List.mem_of_getElem? hj)
  obtain ⟨Ae, ce, e2⟩ := own_sliceE hr
  have h1 := hc 1 (by decide)
  simp only [batCells] at h1
  rw [e2] at hr h1
  exact ⟨g, Ae, ce, rfl, hc 0 (by decide), h1, hr⟩
/-- What stands behind All in a round: the new state in a block of its own. -/
structure FdK (wr W : World) (q : Nat) (A9 : Option Addr) (c9 : Nat) (B9 : Option Addr) (d9 : Nat) (r : Int × StS) : Prop where
  b : Bk W q [.slice A9 r.2.boxes.length c9, .slice B9 r.2.spool.length d9] 56
  l : Below wr.heap.size wr W
  q : wr.heap.size ≤ q
  s : r.1 = 0 → StTy W A9 c9 B9 d9 r.2
theorem fd_set {wr w9 : World} {B q c9 d9 : Nat} {A9 B9 : Option Addr} {r : Int × StS} (hd : Below wr.heap.size wr w9) (hB : Bk w9 q [.slice none 0 0, .slice none 0 0] 56) (ho : r.1 = 0 → ∃ vm p, OwnSt w9 B p r.2 (.slice A9 r.2.boxes.length c9) (.slice B9 r.2.spool.length d9) vm) (hq : wr.heap.size ≤ q) :
    FdK wr ((w9.setCell ⟨q, 0, none⟩ (.slice A9 r.2.boxes.length c9)).setCell ⟨q, 1, none⟩ (.slice B9 r.2.spool.length d9)) q A9 c9 B9 d9 r :=
  ⟨(hB.set 0 _).set 1 _, (hd.setCell (p := ⟨q, 0, none⟩) hq _).setCell (p := ⟨q, 1, none⟩) hq _, hq, fun hz => by
    obtain ⟨vm, p, hO⟩ := ho hz
    exact (hO.sty.setSl hB 0 _).setSl (hB.set 0 _) 1 _⟩
theorem fd_new {wr w9 : World} {B c9 d9 : Nat} {A9 B9 : Option Addr} {r : Int × StS} (hd : Below wr.heap.size wr w9) (ho : r.1 = 0 → ∃ vm p, OwnSt w9 B p r.2 (.slice A9 r.2.boxes.length c9) (.slice B9 r.2.spool.length d9) vm) :
    FdK wr (w9.alloc (.cells #[.slice A9 r.2.boxes.length c9, .slice B9 r.2.spool.length d9] 56)) w9.heap.size A9 c9 B9 d9 r :=
  ⟨Bk.new w9 [.slice A9 r.2.boxes.length c9, .slice B9 r.2.spool.length d9] _, hd.alloc hd.size _, hd.size, fun hz => by
    obtain ⟨vm, p, hO⟩ := ho hz
    exact hO.sty.later ((Below.refl _ w9).alloc (Nat.le_refl _) _)⟩
theorem k3 {a b c B : Prop} (k : a ∧ b ∧ c ∧ B) : B := k.2.2.2
set_option maxRecDepth 100000 in
set_option maxHeartbeats 8000000 in
theorem foldParts_walk (x : List Chr) (A : Option Addr) (c : Nat) (user m : Int) (w : World) (hx : x.length ≤ c ∧ c ≤ 9223372036854775807) (hA : kChr.Row w A x) (hat : (Lit.int .i64 user).wf = true) (hm : w.cell? ⟨0, 0, none⟩ = some (.int .i64 m)) :
    Calls Tryd.prog 10 #[.slice A x.length c, .int .i64 user] w fun e w' => e = .returned (.bool true) ∧ Below w.heap.size w w' := by
  obtain ⟨i0, hi, hz0, hz1, hz2⟩ := info_parts info_bat
  have hpk := fun W => picked_calls user 3 W hat (by decide) (by decide)
  have hu := pickN_lt user 3 (by decide)
  generalize hU : (pickN user 3 : Int) = u at *
  have hu3 : 0 ≤ u ∧ u ≤ 3 := by omega
  have Hpk := Lib.hid hpk
  clear hpk hU
  go_enter Tryd.func10, Tryd.ntmps10
  go_wp2_with fail
  refine (batchesOf_calls x A c w (by omega) hx.1 hx.2 hA).mono ?_
  rintro e w1 ⟨bs, A1, c1, rfl, hl, hg, ⟨q1, hq1, hQ1⟩, hb1⟩
  have hm1 := cell_later hb1 hm
  clear hA hm
  go_wp2_with fail
  refine (Hpk.out _).mono ?_
  rintro e w1' ⟨rfl, rfl⟩
  have hfo := fold_calls [] u none 0 m w1 (fun j b h => by simp at h) (fun b h => by simp at h) (by decide) hu3 hm1
  have Hfo := Lib.hid hfo
  have HQ1 := Lib.hid hQ1
  have Hq1 := Lib.hid hq1
  have Hg := Lib.hid hg
  have Hm1 := Lib.hid hm1
  have Hb1 := Lib.hid hb1
  clear hfo hQ1 hq1 hg hm1 hb1 Hpk
  go_wp2_with fail
  refine Hfo.out.mono ?_
  rintro e w2 ⟨hb2, h2⟩
  rw [if_pos hu] at h2
  obtain ⟨A9, c9, B9, d9, rfl, hat2⟩ := h2
  rw [show foldR u [] inbS = inbS from rfl] at hat2 ⊢
  have hal : Below w2.heap.size w2 (w2.alloc (.cells #[.slice A9 inbS.boxes.length c9, .slice B9 inbS.spool.length d9] 56)) := (Below.refl _ w2).alloc (Nat.le_refl _) _
  have HT := Lib.hid (Bk.new w2 [.slice A9 inbS.boxes.length c9, .slice B9 inbS.spool.length d9] 56)
  have HS := Lib.hid (hat2.later hal)
  have Hal := Lib.hid hal
  have HQ2 := Lib.hid (HQ1.out.later hb2)
  have Hm2 := Lib.hid (cell_later hb2 Hm1.out)
  have Hb2 := Lib.hid (btr Hb1.out hb2)
  clear hal hat2 hb2 Hfo HQ1 Hm1 Hb1
  go_upto_region 4 with fail
  generalize w2.alloc (.cells #[.slice A9 inbS.boxes.length c9, .slice B9 inbS.spool.length d9] 56) = w3 at *
  go_upto_region 6 with fail
  go_loopw [9, 10] (fun v i wr => ∃ (k : Nat) (q : List (BatS × Value)) (A9 : Option Addr) (c9 : Nat) (B9 : Option Addr) (d9 : Nat), k ≤ bs.length ∧ i = .int .i64 k ∧ Hid (q.map Prod.fst = mineL u (bs.take k)) ∧ q.length ≤ k ∧ Hid (RowQ wr w.heap.size v q) ∧ Hid (wr.ownsRow w3.heap.size 25 2 v q.length (q.flatMap batCells)) ∧ Bk wr w2.heap.size [.slice A9 (foldR u (bs.take k) inbS).boxes.length c9, .slice B9 (foldR u (bs.take k) inbS).spool.length d9] 56 ∧ Hid (StTy wr A9 c9 B9 d9 (foldR u (bs.take k) inbS)) ∧ w3.heap.size ≤ wr.heap.size ∧ Hid (Below w2.heap.size w2 wr)) (fun _ i _ => bs.length - (intOf i).toNat)
  case atStart => exact ⟨0, [], A9, c9, B9, d9, Nat.zero_le _, rfl, Lib.hid rfl, Nat.zero_le _, Lib.hid (RowQ.nil _ _), Lib.hid (World.ownsRow_nil _ _ _ _), HT.out, HS, Nat.le_refl _, Hal⟩
  case round =>
    obtain ⟨k, q, A9, c9, B9, d9, hk, rfl, Hqm, hqk, HQ, HO, hT, HS, hw3, Hb⟩ := hrel
    have HT0 := HT
    clear HT
    by_cases hlt : k < bs.length
    · have hq1l : k < q1.length := by
        have := congrArg List.length Hq1.out
        rw [List.length_map] at this
        omega
      obtain ⟨p, hp⟩ : ∃ p, q1[k]? = some p := ⟨q1[k], by simp [hq1l]⟩
      have hbk : bs[k]? = some p.1 := by rw [← Hq1.out, List.getElem?_map, hp]; rfl
      obtain ⟨g, Ae, ce, hA1, c0, c1', hrow⟩ := (HQ2.out.later Hb.out).at k p hp
      have hgb := Hg.out p.1 (List.mem_of_getElem? hbk)
      have htk : bs.take (k + 1) = bs.take k ++ [p.1] := by rw [List.take_add_one, hbk]; rfl
      have hfs : foldR u (bs.take (k + 1)) inbS = foldB u (foldR u (bs.take k) inbS) p.1 := by rw [htk, fold_snoc]
      have hms : mineL u (bs.take (k + 1)) = if p.1.user = u then mineL u (bs.take k) ++ [p.1] else mineL u (bs.take k) := by rw [htk, mine_snoc]
      have hv := vld_foldR u (bs.take k) inbS vld_inb
      generalize foldR u (bs.take k) inbS = s at *
      generalize mineL u (bs.take k) = mi at *
      obtain ⟨b, pv⟩ := p
      simp only at c0 c1' hrow hgb hfs hms
      have hk0 : (0 : Int) ≤ (k : Int) := by omega
      have hkn : (k : Int) < (bs.length : Int) := by omega
      have Hfs := Lib.hid hfs
      have Hms := Lib.hid hms
      have Hgb := Lib.hid hgb
      have Hv := Lib.hid hv
      have Hrow := Lib.hid hrow
      have HT := Lib.hid hT
      have Hp := Lib.hid hp
      clear hfs hms hgb hv hrow hp hbk htk hT
      rw [Nat.zero_add] at c0 c1'
      subst hA1
      by_cases hbu : b.user = u
      · obtain ⟨bu, be⟩ := b
        simp only at hbu c0 c1' Hrow Hgb Hfs Hms
        subst hbu
        have hfs := Hfs.out
        unfold foldB at hfs
        rw [if_pos rfl] at hfs
        simp only at hfs
        have hms := Hms.out
        rw [if_pos rfl] at hms
        have Hms2 := Lib.hid hms
        have hbL : Below wr.heap.size wr (wr.alloc (.cells #[.int .i64 bu, .slice Ae be.length ce] 25)) := (Below.refl _ wr).alloc (Nat.le_refl _) _
        have hnw := new_cells wr [.int .i64 bu, .slice Ae be.length ce] 25
        have hQL := HQ.out.later hbL
        have hOL := row_later hbL HO.out
        have hrL := row_later hbL Hrow.out
        have hTL := HT.out.later hbL
        have hSL := HS.out.later hbL
        have hbB := btr Hb.out hbL
        have hlt3 : w2.heap.size < w3.heap.size := HT0.out.lt
        have hws3 : w3.heap.size ≤ wr.heap.size := hw3
        have hfin : ∀ (v' : Value) (w5 : World), w5.ownsRow w3.heap.size 25 2 v' (q.length + 1) (q.flatMap batCells ++ [.int .i64 bu, .slice Ae be.length ce]) → (wr.alloc (.cells #[.int .i64 bu, .slice Ae be.length ce] 25)).grownBy w5 u9.ownBlock →
            RowQ w5 w.heap.size v' (q ++ [(⟨bu, be⟩, .slice Ae be.length ce)]) ∧ Bk w5 w2.heap.size [.slice A9 s.boxes.length c9, .slice B9 s.spool.length d9] 56 ∧ StTy w5 A9 c9 B9 d9 s ∧ Below w2.heap.size w2 w5 := fun v' w5 hown hgrow => by
          refine ⟨RowQ.snoc (b := ⟨bu, be⟩) hQL hrL hgrow (row_base (by have := Hb2.out.size; omega) hown), hTL.grown hgrow (fun e => ?_), hSL.grown hOL hgrow, hbB.grown hgrow hbB.size (fun k e => ?_)⟩
          · have := (hOL.lt _ e.symm).1; omega
          · have := (hOL.lt _ e).1; omega
        have Hfin := Lib.hid hfin
        have HOL := Lib.hid hOL
        clear hfin hQL hrL hTL hSL hbB hms
        go_upto_region 10 with (at_builtin; refine wpList_append_own_at _ rfl _ _ 39 rfl w3.heap.size 25 i0 (.agg #[.int .i64 0, .slice none 0 0]) 2 32 Tryd.underlying39 hi hz0 hz1 hz2 rfl (by decide) u9 q.length (q.flatMap batCells) rfl HOL.out ⟨wr.heap.size, 0, none⟩ 1 1 [.int .i64 bu, .slice Ae be.length ce] rfl rfl hnw (by simp [Value.oneCell']) (by unfold maxLen; omega) (by omega) (by simp; omega) ?_; intro v' w5 hown' hgrow _ hat; obtain ⟨hQ5, hT5, hS5, hb5⟩ := Hfin.out v' w5 hown' hgrow; have HQ5 := Lib.hid hQ5; have HT5 := Lib.hid hT5; have HS5 := Lib.hid hS5; have Hb5 := Lib.hid hb5; have HO5 := Lib.hid hown'; clear hown' hgrow hat hQ5 hT5 hS5 hb5)
        obtain ⟨g', Ae', ce', hA1', _, c1', hrow'⟩ := (HQ2.out.later Hb5.out).at k _ Hp.out
        obtain ⟨rfl, _, _⟩ := Addr.mk.inj (Option.some.inj hA1')
        simp only at c1' hrow'
        rw [Nat.zero_add] at c1'
        have t0 := HT5.out.cell 0 _ rfl
        have t1 := HT5.out.cell 1 _ rfl
        have hd := bdr w5
        have hes5 := ownsRow_ents hrow' rfl
        have hcall := fun W (hW : Below w5.drew.heap.size w5.drew W) => (all_calls s be A9 B9 Ae' c9 d9 ce' m W ((HS5.out.at.later hd).later hW) Hv.out.okC ((hes5.later hd).later hW) Hgb.out.sm (by have := Hgb.out.em; simp only at this; omega) (cell_later hW (cell_later hd (cell_later Hb5.out Hm2.out)))).mono fun _ _ h => allOk_at h
        generalize allR s be = r at *
        have hmk := fun (W : World) (hW : Below w5.drew.heap.size w5.drew W) => And.intro (cell_later hW (cell_later hd t0)) (And.intro (cell_later hW (cell_later hd t1)) (And.intro (cell_later hW (cell_later hd c1')) hW))
        have Hmk := Lib.hid hmk
        have Hcall := Lib.hid hcall
        have Hfs2 := Lib.hid hfs
        obtain ⟨Am, cm, rfl⟩ := own_sliceE HO5.out
        have hKK := Hmk.out w5.drew (Below.refl _ _)
        clear hmk hcall hd hes5 hrow' hA1' c0 c1' t0 t1 hfs hbL hnw hOL HOL hlt3 Hfin
        go_wp2_with fail
        go_region_held3 (fun W => W.cell? ⟨w2.heap.size, 0, none⟩ = some (.slice A9 s.boxes.length c9) ∧ W.cell? ⟨w2.heap.size, 1, none⟩ = some (.slice B9 s.spool.length d9) ∧ W.cell? ⟨g, k * 2 + 1, none⟩ = some (.slice Ae' be.length ce') ∧ Below w5.drew.heap.size w5.drew W) (first | exact hKK | exact Hmk.out _ (bal (k3 (by first | assumption | exact hS)) _) | (refine Hmk.out _ (Below.setCell (Below.setCell (k3 (by first | assumption | exact hS)) ?_ _) ?_ _) <;> exact Nat.le_refl _))
          (first | (go_at_call 25; (with_reducible refine (Hcall.out _ ?_).mono ?_); exact k3 (by first | assumption | exact hS); rintro e w9 ⟨A5, c5, B5, d5, rfl, _, hown5, hb9⟩; have hKK := Hmk.out w9 (btr (k3 (by first | assumption | exact hS)) hb9); try (have hB9 : Bk w9 w5.heap.size [.slice none 0 0, .slice none 0 0] 56 := (Bk.new w5.drew [.slice none 0 0, .slice none 0 0] 56).later hb9; have y0 := hB9.cell 0 _ rfl; have y1 := hB9.cell 1 _ rfl; have f0 := hB9.frozen 0; have f1 := hB9.frozen 1)))
        all_goals (
          first
            | (have hW := fd_set (k3 hKK) hB9 hown5 (Nat.le_refl _)
               clear hKK hb9 Hmk Hcall hown5
               generalize (w9.setCell ⟨w5.heap.size, 0, none⟩ (.slice A5 r.2.boxes.length c5)).setCell ⟨w5.heap.size, 1, none⟩ (.slice B5 r.2.spool.length d5) = W at *)
            | (have hW := fd_new (k3 hKK) hown5
               clear hKK hb9 Hmk Hcall hown5
               generalize w9.alloc (.cells #[.slice A5 r.2.boxes.length c5, .slice B5 r.2.spool.length d5] 56) = W at *))
        all_goals (
          obtain ⟨hX6, hbl, hqq, hS6⟩ := hW
          have hbw := btr (bdr w5) hbl
          have HX6 := Lib.hid hX6
          have HS6 := Lib.hid hS6
          have HT6 := Lib.hid (HT5.out.later hbw)
          have HQ6 := Lib.hid (HQ5.out.later hbw)
          have HR6 := Lib.hid (row_later hbw HO5.out)
          have HO6 := Lib.hid (HS5.out.later hbw)
          have Hb6 := Lib.hid (btr Hb5.out hbw)
          have hs6 : w3.heap.size ≤ W.heap.size := by
            have h1 := hbw.size
            have h2 := (HO5.out.form (by omega))
            obtain ⟨gq, cq, _, hq3, hq4⟩ := h2
            omega
          clear hX6 hbl hqq hS6 hbw
          by_cases hr : r.1 = 0
          · have hfs := Hfs2.out
            rw [if_pos hr] at hfs
            rw [hr]
            have x0 := HX6.out.cell 0 _ rfl
            have x1 := HX6.out.cell 1 _ rfl
            have t0 := HT6.out.cell 0 _ rfl
            have t1 := HT6.out.cell 1 _ rfl
            have f0 := HT6.out.frozen 0
            have f1 := HT6.out.frozen 1
            have HQ7 := Lib.hid ((HT6.out.set 0 (.slice A5 r.2.boxes.length c5)).set 1 (.slice B5 r.2.spool.length d5))
            have HS7 := Lib.hid (((HS6.out hr).setSl HT6.out 0 (.slice A5 r.2.boxes.length c5)).setSl (HT6.out.set 0 (.slice A5 r.2.boxes.length c5)) 1 (.slice B5 r.2.spool.length d5))
            have Hb7 := Lib.hid ((Hb6.out.setCell (p := ⟨w2.heap.size, 0, none⟩) (Nat.le_refl _) (.slice A5 r.2.boxes.length c5)).setCell (p := ⟨w2.heap.size, 1, none⟩) (Nat.le_refl _) (.slice B5 r.2.spool.length d5))
            have HM7 := Lib.hid ((HQ6.out.set HT6.out (by decide) (by decide) 0 (.slice A5 r.2.boxes.length c5)).set (HT6.out.set 0 (.slice A5 r.2.boxes.length c5)) (by decide) (by decide) 1 (.slice B5 r.2.spool.length d5))
            have HR7 := Lib.hid (own_set (own_set HR6.out HT6.out (by decide) 0 (.slice A5 r.2.boxes.length c5)) (HT6.out.set 0 (.slice A5 r.2.boxes.length c5)) (by decide) 1 (.slice B5 r.2.spool.length d5))
            have hs7 : w3.heap.size ≤ ((W.setCell ⟨w2.heap.size, 0, none⟩ (.slice A5 r.2.boxes.length c5)).setCell ⟨w2.heap.size, 1, none⟩ (.slice B5 r.2.spool.length d5)).heap.size := by simpa using hs6
            have Hs7 := Lib.hid hs7
            have Hfs3 := Lib.hid hfs
            clear hfs hs7
            go_wp2_with fail
            go_roundw
            case rel => exact ⟨k + 1, _, A5, c5, B5, d5, by omega, by go_num, Lib.hid (by rw [Hms2.out, List.map_append, Hqm.out]; rfl), by rw [List.length_append, List.length_singleton]; omega, HM7, Lib.hid (by rw [List.length_append, List.flatMap_append]; simpa [batCells] using HR7.out), by rw [Hfs3.out]; exact HQ7.out, by rw [Hfs3.out]; exact HS7, Hs7.out, Hb7⟩
            case measure => simp [intOf]; omega
          · have hfs := Hfs2.out
            rw [if_neg hr] at hfs
            have Hfs3 := Lib.hid hfs
            have hr' : (r.1 == 0) = false := by rw [beq_eq_false_iff_ne]; exact hr
            clear hfs
            go_wp2_with fail
            go_roundw
            case rel => exact ⟨k + 1, _, A9, c9, B9, d9, by omega, by go_num, Lib.hid (by rw [Hms2.out, List.map_append, Hqm.out]; rfl), by rw [List.length_append, List.length_singleton]; omega, HQ6, Lib.hid (by rw [List.length_append, List.flatMap_append]; simpa [batCells] using HR6.out), by rw [Hfs3.out]; exact HT6.out, by rw [Hfs3.out]; exact HO6, hs6, Hb6⟩
            case measure => simp [intOf]; omega)
      · have hbu' : (b.user == u) = false := by rw [beq_eq_false_iff_ne]; exact hbu
        have hfs := Hfs.out
        unfold foldB at hfs
        rw [if_neg hbu] at hfs
        have Hfs2 := Lib.hid hfs
        have hms := Hms.out
        rw [if_neg hbu] at hms
        have Hms2 := Lib.hid hms
        clear hfs hms
        go_wp2_with fail
        go_roundw
        case rel => exact ⟨k + 1, q, A9, c9, B9, d9, by omega, by go_num, Lib.hid (by rw [Hms2.out]; exact Hqm.out), by omega, HQ, HO, by rw [Hfs2.out]; exact HT.out, by rw [Hfs2.out]; exact HS, hw3, Hb⟩
        case measure => simp [intOf]; omega
    · obtain rfl : k = bs.length := by omega
      rw [List.take_length] at hT HS Hqm
      have hvs := vld_foldR u bs inbS vld_inb
      have hbx : 0 < (foldR u bs inbS).boxes.length := Nat.lt_of_lt_of_le (by decide) (fold_boxes u bs inbS)
      have hgm : ∀ b ∈ q.map Prod.fst, GoodB b := by
        rw [Hqm.out]
        intro b hb
        exact Hg.out b (List.mem_filter.1 hb).1
      have hf1 := fun W hA hm => fold_calls bs u A1 c1 m W hA Hg.out (by omega) hu3 hm
      have hf3 := fun W hA hm => fold_calls bs 3 A1 c1 m W hA Hg.out (by omega) (by decide) hm
      obtain ⟨Am, cm, rfl⟩ := HQ.out.len
      have hf2 := fun W hA hm => fold_calls (q.map Prod.fst) u Am cm m W hA hgm (by rw [List.length_map]; omega) hu3 hm
      have hbq : ∀ W, Below w2.heap.size w2 W → BatsAt W A1 bs := fun W hW => by
        have h := (HQ2.out.later hW)
        have hl1 : bs.length = q1.length := by
          have := congrArg List.length Hq1.out
          rw [List.length_map] at this
          exact this.symm
        rw [hl1] at h
        have h2 := h.bats
        rw [Hq1.out] at h2
        exact h2
      have hbm : ∀ W, Below wr.heap.size wr W → BatsAt W Am (q.map Prod.fst) := fun W hW => (HQ.out.later hW).bats
      unfold FoldOk at hf1 hf2 hf3
      simp only [if_pos hu] at hf1 hf2
      simp only [show ¬ ((3 : Int) < 3) by decide, if_false] at hf3
      rw [List.length_map, Hqm.out, fold_mine] at hf2
      rw [Hqm.out] at hbm
      generalize foldR u bs inbS = s at *
      have same := fun A A2 B B2 c c2 d d2 W hA hB => same_state s A A2 B B2 c c2 d d2 W hA hB (by have := hvs.nb; omega) (by have := hvs.ns; omega) (fun b hb => by have := (hvs.bx b hb).ml; omega)
      have Same := Lib.hid same
      have Hf1 := Lib.hid hf1
      have Hf2 := Lib.hid hf2
      have Hf3 := Lib.hid hf3
      have Hbq := Lib.hid hbq
      have Hbm := Lib.hid hbm
      have HT := Lib.hid hT
      have hcall := Hf1.out wr (Hbq.out wr Hb.out) (cell_later Hb.out Hm2.out)
      have Hcall := Lib.hid hcall
      clear same hf1 hf2 hf3 hbq hbm hT hcall hvs hgm Hqm Hq1 Hg HQ2 HQ HO
      have hbn : ¬ (bs.length : Int) < (bs.length : Int) := by omega
      go_upto_region 13 with fail
      go_wp2_with fail
      refine Hcall.out.mono ?_
      rintro e w4 ⟨hb4, A4, c4, B4, d4, rfl, hat4⟩
      have hal : Below w4.heap.size w4 (w4.alloc (.cells #[.slice A4 s.boxes.length c4, .slice B4 s.spool.length d4] 56)) := (Below.refl _ w4).alloc (Nat.le_refl _) _
      have HX5 := Lib.hid (Bk.new w4 [.slice A4 s.boxes.length c4, .slice B4 s.spool.length d4] 56)
      have HS5 := Lib.hid (hat4.later hal)
      have hb5 := btr hb4 hal
      have Hb5 := Lib.hid hb5
      have hcall := Hf2.out _ (Hbm.out _ hb5) (cell_later (btr Hb.out hb5) Hm2.out)
      have Hcall := Lib.hid hcall
      clear hal hat4 hb4 hb5 hcall
      go_upto_region 14 with fail
      generalize w4.alloc (.cells #[.slice A4 s.boxes.length c4, .slice B4 s.spool.length d4] 56) = w5 at *
      go_wp2_with fail
      refine Hcall.out.mono ?_
      rintro e w6 ⟨hb6, A6, c6, B6, d6, rfl, hat6⟩
      have hal : Below w6.heap.size w6 (w6.alloc (.cells #[.slice A6 s.boxes.length c6, .slice B6 s.spool.length d6] 56)) := (Below.refl _ w6).alloc (Nat.le_refl _) _
      have HX7 := Lib.hid (Bk.new w6 [.slice A6 s.boxes.length c6, .slice B6 s.spool.length d6] 56)
      have HS7 := Lib.hid (hat6.later hal)
      have hb57 := btr hb6 hal
      have Hb57 := Lib.hid hb57
      have hb7 := btr Hb5.out hb57
      have Hb7 := Lib.hid hb7
      have hcall := Hf3.out _ (Hbq.out _ (btr Hb.out hb7)) (cell_later (btr Hb.out hb7) Hm2.out)
      have Hcall := Lib.hid hcall
      clear hal hat6 hb6 hb7 hb57 hcall
      go_upto_region 15 with fail
      generalize w6.alloc (.cells #[.slice A6 s.boxes.length c6, .slice B6 s.spool.length d6] 56) = w7 at *
      go_wp2_with fail
      refine Hcall.out.mono ?_
      rintro e w8 ⟨hb8, rfl⟩
      have hal : Below w8.heap.size w8 (w8.alloc (.cells #[.slice none 0 0, .slice none 0 0] 56)) := (Below.refl _ w8).alloc (Nat.le_refl _) _
      have Hb79 := Lib.hid (btr hb8 hal)
      clear hal hb8
      go_upto_region 16 with fail
      generalize w8.alloc (.cells #[.slice none 0 0, .slice none 0 0] 56) = w9 at *
      have hb59 := btr Hb57.out Hb79.out
      have hb09 := btr Hb5.out hb59
      have hcall := Same.out _ _ _ _ _ _ _ _ w9 (HS5.out.later hb59).at (HS.out.later hb09).at
      have Hcall := Lib.hid hcall
      have x0 := (HX5.out.later hb59).cell 0 _ rfl
      have x1 := (HX5.out.later hb59).cell 1 _ rfl
      have t0 := (HT.out.later hb09).cell 0 _ rfl
      have t1 := (HT.out.later hb09).cell 1 _ rfl
      have Hb09 := Lib.hid hb09
      clear hb59 hb09 hcall
      go_wp2_with fail
      refine Hcall.out.mono ?_
      rintro e w10 ⟨rfl, hb10⟩
      have hb70 := btr Hb79.out hb10
      have hb00 := btr Hb09.out hb10
      have hcall := Same.out _ _ _ _ _ _ _ _ w10 (HS7.out.later hb70).at (HS.out.later hb00).at
      have Hcall := Lib.hid hcall
      clear x0 x1 t0 t1
      have y0 := (HX7.out.later hb70).cell 0 _ rfl
      have y1 := (HX7.out.later hb70).cell 1 _ rfl
      have t0 := (HT.out.later hb00).cell 0 _ rfl
      have t1 := (HT.out.later hb00).cell 1 _ rfl
      have Hb00 := Lib.hid hb00
      clear hb70 hb00 hcall hb10
      go_wp2_with fail
      refine Hcall.out.mono ?_
      rintro e w11 ⟨rfl, hb11⟩
      clear y0 y1 t0 t1
      have hb01 := btr Hb00.out hb11
      have t0 := (HT.out.later hb01).cell 0 _ rfl
      have Hbz := Lib.hid (btr Hb2.out (btr Hb.out hb01))
      have hbx' : (0 : Int) < (s.boxes.length : Int) := by omega
      clear hb01 hb11
      go_wp2_with fail
      go_ret
      exact ⟨rfl, Hbz.out⟩
end Go.Proofs.YtpncahklapfoaaaDoor
