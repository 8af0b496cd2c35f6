/- book.Append: what it returns. -/
import Derived.Test.YtpncahklapfoaaaDoorBkOpen
namespace Go.Proofs.YtpncahklapfoaaaDoor
open Go.RowKit
set_option linter.unusedVariables false

/-- What Append ends in. -/
def AppOk (w : World) (l : List UInt8) (sy : Nat) (b : BatS) (e : Ending) (w' : World) : Prop :=
  ∃ A c, e = .returned (.tuple #[.agg #[.slice A (l ++ frameN b).length c, .int .i64 sy], .int .i64 0]) ∧ w'.ownsRow w.heap.size 5 1 (.slice A (l ++ frameN b).length c) (l ++ frameN b).length (u8s (l ++ frameN b)) ∧ Below w.heap.size w w'
set_option maxRecDepth 100000 in
set_option maxHeartbeats 4000000 in
theorem append_calls (A Ae : Option Addr) (c ce : Nat) (l : List UInt8) (sy : Nat) (b : BatS) (m : Int) (w : World) (hA : BS w w.heap.size A c l) (hE : EsAt w Ae b.es) (hg : GoodB b) (hl : l.length + (frameN b).length ≤ 100000) (hs : sy ≤ l.length) (hm : w.cell? ⟨0, 0, none⟩ = some (.int .i64 m)) :
    Calls Tryd.prog 22 #[.agg #[.slice A l.length c, .int .i64 sy], .agg #[.int .i64 b.user, .slice Ae b.es.length ce]] w fun e w' => AppOk w l sy b e w' := by
  obtain ⟨i0, hi, hz0, hz1, hz2⟩ := info_parts info_u8
  rw [frameN_len] at hl
  obtain ⟨W, hW⟩ : ∃ W, W = ((w.alloc (.cells #[.slice A l.length c, .int .i64 sy] 42)).alloc (.cells #[.int .i64 b.user, .slice Ae b.es.length ce] 25)).alloc (.cells #[.slice none 0 0, .int .i64 0] 42) := ⟨_, rfl⟩
  have hX : Bk W w.heap.size [.slice A l.length c, .int .i64 sy] 42 := by rw [hW]; exact ((Bk.new w [.slice A l.length c, .int .i64 sy] _).alloc _).alloc _
  have hY : Bk W (w.heap.size + 1) [.int .i64 b.user, .slice Ae b.es.length ce] 25 := by
    have h := (Bk.new (w.alloc (.cells #[.slice A l.length c, .int .i64 sy] 42)) [.int .i64 b.user, .slice Ae b.es.length ce] 25).alloc (.cells #[.slice none 0 0, .int .i64 0] 42)
    rw [show (w.alloc (.cells #[.slice A l.length c, .int .i64 sy] 42)).heap.size = w.heap.size + 1 by simp] at h
    rw [hW]; exact h
  have hR : Bk W (w.heap.size + 1 + 1) [.slice none 0 0, .int .i64 0] 42 := by
    have h := Bk.new ((w.alloc (.cells #[.slice A l.length c, .int .i64 sy] 42)).alloc (.cells #[.int .i64 b.user, .slice Ae b.es.length ce] 25)) [.slice none 0 0, .int .i64 0] 42
    rw [show ((w.alloc (.cells #[.slice A l.length c, .int .i64 sy] 42)).alloc (.cells #[.int .i64 b.user, .slice Ae b.es.length ce] 25)).heap.size = w.heap.size + 2 by simp] at h
    rw [hW]; exact h
  have hb1 : Below w.heap.size w W := by rw [hW]; exact (((Below.refl _ w).alloc (Nat.le_refl _) _).alloc (by simp) _).alloc (by simp; omega) _
  have hs1 : w.heap.size + 3 ≤ W.heap.size := by rw [hW]; simp
  have hop := open_calls A c l sy W (hA.later hb1) (by omega) hs
  have Hop := Lib.hid hop
  have hE1 := hE.later hb1
  have hm1 := cell_later hb1 hm
  have x0 := hX.cell 0 _ rfl
  have x1 := hX.cell 1 _ rfl
  clear hop hA hE hm
  go_enter Tryd.func22, Tryd.ntmps22
  go_wp2_with fail
  rw [← hW]
  clear hW
  refine Hop.out.mono ?_
  rintro e w2 ⟨A1, c1, rfl, hr2, hb2⟩
  have hY2 := hY.later hb2
  have hR2 := hR.later hb2
  have hE2 := hE1.later hb2
  have hm2 := cell_later hb2 hm1
  have hb3 := btr hb1 hb2
  have hs2 := hb2.size
  clear Hop hX hY hR hE1 hm1 x0 x1 hb1 hb2
  have hbA : Below w2.heap.size w2 (w2.alloc (.cells #[.slice A1 l.length c1, .int .i64 sy] 42)) := (Below.refl _ w2).alloc (Nat.le_refl _) _
  have hT := Bk.new w2 [.slice A1 l.length c1, .int .i64 sy] 42
  have hY3 := hY2.later hbA
  have hR3 := hR2.later hbA
  have hE3 := hE2.later hbA
  have hr3 := row_later hbA hr2
  have hA1l : ∀ q, (Value.slice A1 l.length c1).ownBlock = some q → q < w2.heap.size := fun q hq => (hr2.lt q hq).2
  have hm3 := cell_later hbA hm2
  have hb4 := btr hb3 hbA
  have hs3 := hbA.size
  have y0 := hY3.cell 0 _ rfl
  have y1 := hY3.cell 1 _ rfl
  have henc := encode_calls b.user b.es Ae ce m _ hE3 hg.sm (by have := hg.em; omega) hm3
  have Henc := Lib.hid henc
  have hq2 : w.heap.size + 3 ≤ w2.heap.size := by omega
  clear hY2 hR2 hE2 hm2 hb3 hbA hr2 henc hE3 hm3
  go_upto_region 4 with fail
  generalize w2.alloc (.cells #[.slice A1 l.length c1, .int .i64 sy] 42) = w3 at *
  go_wp2_with fail
  refine Henc.out.mono ?_
  intro e w4 h4
  unfold EncOk at h4
  rw [if_pos hg.ok] at h4
  obtain ⟨vf, rfl, hf, hb5⟩ := h4
  obtain ⟨gf, cf, rfl, _, _⟩ := hf.form (by have := batN_two b.user b.es; omega)
  have hT4 := hT.later hb5
  have hR4 := hR3.later hb5
  have hr4 := row_later hb5 hr3
  have hb6 := btr hb4 hb5
  have hln := hg.ln
  have hfr : frameN b = wideN 3 (batN b.user b.es).length ++ batN b.user b.es := rfl
  have Hfr := Lib.hid hfr
  have t0 := hT4.cell 0 _ rfl
  have t1 := hT4.cell 1 _ rfl
  have ft := hT4.frozen 0
  clear Henc hT hR3 hr3 hb4 hY3 y0 y1 hg hfr
  generalize batN b.user b.es = F at *
  have q9 : ¬ (100000 : Int) < (l.length : Int) + 3 + (F.length : Int) := by omega
  have hA1b : ∀ q, (Value.slice A1 l.length c1).ownBlock = some q → W.heap.size ≤ q := fun q hq => (hr4.lt q hq).1
  have hs4 := hb5.size
  have HA1l := Lib.hid hA1l
  have HA1b := Lib.hid hA1b
  clear hA1l hA1b hb5
  go_upto_region 9 with fail
  go_wp2_with fail
  refine (wide_calls (.slice A1 l.length c1) l F.length 3 W.heap.size w4 (by omega) hr4 (by omega) (by omega) (by decide)).mono ?_
  rintro e w5 ⟨v5, rfl, hr5, hg5, ho5⟩
  have hf5 := row_grown hf hg5 (fun k hk e => by
    obtain rfl := Option.some.inj hk
    have := HA1l.out _ e.symm
    simp only at this
    omega)
  have hT5 := hT4.grown hg5 (fun e => by have := HA1l.out _ e.symm; omega)
  have hR5 := hR4.grown hg5 (fun e => by have := HA1b.out _ e.symm; omega)
  have hb7 := hb6.grown hg5 hb6.size (fun k e => by have := HA1b.out _ e; omega)
  have hs5 := hg5.size
  have hv5 : ∀ q, v5.ownBlock = some q → W.heap.size ≤ q ∧ q ≠ w2.heap.size := fun q hq => by
    refine ⟨(hr5.lt q hq).1, ?_⟩
    rcases ho5 with h | h
    · have := HA1l.out q (by rw [← h]; exact hq); omega
    · have := h q hq; omega
  have HV5 := Lib.hid hv5
  have hcs : ∀ (j : Nat) u, (u8s F)[j]? = some u → w5.cell? ((⟨gf, 0, none⟩ : Addr).add j) = some u := fun j u hj => by
    obtain ⟨b', off, e, hc⟩ := (bs_of_own hf5 rfl).csat j u hj
    obtain ⟨rfl, rfl, _⟩ := Addr.mk.inj (Option.some.inj e)
    rw [add_plain rfl]
    exact hc
  have Hcs := Lib.hid hcs
  have h1 := one_u8s F
  have H1 := Lib.hid h1
  have hfl := u8s_len F
  have hll : (l ++ wideN 3 F.length).length = l.length + 3 := by rw [List.length_append, wideN_len]
  generalize hn5 : (l ++ wideN 3 F.length).length = n5 at *
  have Hn5 := Lib.hid hn5
  have Hll := Lib.hid hll
  have t0 := hT5.cell 0 _ rfl
  have t1 := hT5.cell 1 _ rfl
  have ft := hT5.frozen 0
  have hfin : ∀ (v6 : Value) (w6 : World), w6.ownsRow W.heap.size 5 1 v6 (n5 + F.length) (u8s (l ++ wideN 3 F.length) ++ u8s F) → w5.grownBy w6 v5.ownBlock →
      (w6.cell? ⟨w2.heap.size, 0, none⟩ = some (.slice A1 l.length c1) ∧ w6.frozen? ⟨w2.heap.size, 0, none⟩ = false) ∧
      Bk (w6.setCell ⟨w2.heap.size, 0, none⟩ v6) w2.heap.size [v6, .int .i64 sy] 42 ∧
      Bk (w6.setCell ⟨w2.heap.size, 0, none⟩ v6) (w.heap.size + 1 + 1) [.slice none 0 0, .int .i64 0] 42 ∧
      (w6.setCell ⟨w2.heap.size, 0, none⟩ v6).ownsRow W.heap.size 5 1 v6 (n5 + F.length) (u8s (l ++ wideN 3 F.length) ++ u8s F) ∧ Below w.heap.size w (w6.setCell ⟨w2.heap.size, 0, none⟩ v6) := by
    intro v6 w6 hown hgrow
    have hR6 := hR5.grown hgrow (fun e => by have := (hv5 _ e.symm).1; omega)
    have hT6 := hT5.grown hgrow (fun e => (hv5 _ e.symm).2 rfl)
    have hb8 := hb7.grown hgrow hb7.size (fun k e => by have := (hv5 _ e).1; omega)
    exact ⟨⟨hT6.cell 0 _ rfl, hT6.frozen 0⟩, hT6.set 0 v6, hR6.other (by omega) 0 v6, own_set hown hT6 (by decide) 0 v6, hb8.setCell (p := ⟨w2.heap.size, 0, none⟩) (by show w.heap.size ≤ w2.heap.size; omega) v6⟩
  have Hfin := Lib.hid hfin
  clear hcs h1 hv5 hf5 hf hT4 hR4 hr4 hb6 hg5 ho5 hT5 hR5 hb7 hll hn5 hfin HV5
  go_upto_region 10 with (at_builtin; refine wpList_append_own_at _ rfl _ _ 27 rfl W.heap.size 5 i0 (.int .u8 0) 1 1 Tryd.underlying27 hi hz0 hz1 hz2 rfl (by decide) v5 n5 (u8s (l ++ wideN 3 F.length)) rfl hr5 ⟨gf, 0, none⟩ F.length cf (u8s F) rfl (by omega) Hcs.out H1.out (by have := Hll.out; unfold maxLen; omega) (by have := Hll.out; omega) (by omega) ?_; intro v6 w6 hown' hgrow _ hat; obtain ⟨⟨t0, ft⟩, hT7, hR7, hr7, hb7⟩ := Hfin.out v6 w6 hown' hgrow; obtain ⟨A6, c6, rfl⟩ := own_sliceE hown'; have HT7 := Lib.hid hT7; have HR7 := Lib.hid hR7; have Hr7 := Lib.hid hr7; have Hb7 := Lib.hid hb7; clear hown' hgrow hat hT7 hR7 hr7 hb7)
  generalize w6.setCell ⟨w2.heap.size, 0, none⟩ (.slice A6 (n5 + F.length) c6) = w7 at *
  have hR7 := HR7.out
  have u0 := HT7.out.cell 0 _ rfl
  have u1 := HT7.out.cell 1 _ rfl
  have r0 := hR7.cell 0 _ rfl
  have r1 := hR7.cell 1 _ rfl
  have f0 := hR7.frozen 0
  have f1 := hR7.frozen 1
  have hZ := (hR7.set 0 (.slice A6 (n5 + F.length) c6)).set 1 (.int .i64 sy)
  have z0 := hZ.cell 0 _ rfl
  have z1 := hZ.cell 1 _ rfl
  have hrz := own_set (own_set Hr7.out hR7 (by decide) 0 (.slice A6 (n5 + F.length) c6)) (hR7.set 0 (.slice A6 (n5 + F.length) c6)) (by decide) 1 (.int .i64 sy)
  have hbz := (Hb7.out.setCell (p := ⟨w.heap.size + 1 + 1, 0, none⟩) (by show w.heap.size ≤ w.heap.size + 1 + 1; omega) (.slice A6 (n5 + F.length) c6)).setCell (p := ⟨w.heap.size + 1 + 1, 1, none⟩) (by show w.heap.size ≤ w.heap.size + 1 + 1; omega) (.int .i64 sy)
  rw [← u8s_append, List.append_assoc, ← Hfr.out] at hrz
  have hlen : n5 + F.length = (l ++ frameN b).length := by rw [Hfr.out, ← List.append_assoc, List.length_append, ← Hn5.out]
  have Hlen := Lib.hid hlen
  have Hrz := Lib.hid (row_base (base2 := w.heap.size) (by omega) hrz)
  have Hbz := Lib.hid hbz
  clear hrz hbz hR7 hZ hr5 t0 t1 ft hlen Hfin
  go_wp2_with fail
  exact bodyPost_ret (v := .tuple #[.agg #[.slice A6 (n5 + F.length) c6, .int .i64 sy], .int .i64 0]) (by simp [results, Tryd.results22, go_sem, z0, z1]) rfl ⟨A6, c6, by rw [Hlen.out], by rw [← Hlen.out]; exact Hrz.out, Hbz.out⟩
end Go.Proofs.YtpncahklapfoaaaDoor
