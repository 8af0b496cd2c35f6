/- A batch is decoded as it was encoded; with a byte more it is none: for every list of raw numbers, every user and every byte. -/
import Derived.Test.YtpncahklapfoaaaDoorBatLaw
import Derived.Outline
namespace Go.Proofs.YtpncahklapfoaaaDoor
open Go.RowKit
set_option linter.unusedVariables false

/-- Bytes of the call's own are decoded: what holds of a batch's bytes. -/
theorem dec_own (u : Int) (es : List Ent) (h : checkB u es = 0) (A : Option Addr) (c : Nat) (m : Int) (w : World) (hb : BS w w.heap.size A c (batN u es)) (hm : w.cell? ⟨0, 0, none⟩ = some (.int .i64 m)) :
    Calls Tryd.prog 13 #[.slice A (batN u es).length c] w fun e w' => ∃ A2 c2, e = .returned (.tuple #[.agg #[.int .i64 u, .slice A2 es.length c2], .int .i64 0]) ∧ w'.ownsRow w.heap.size 63 6 (.slice A2 es.length c2) es.length (entsCells es) ∧ Below w.heap.size w w' := by
  have hl := batN_len u es h
  obtain ⟨d1, d2, d3⟩ := dec_bat u es h
  refine (decode_calls A c (batN u es) m w hb (by omega) hm).mono ?_
  rintro e w' ⟨u', v', rfl, hbl, hif⟩
  rw [if_pos d1] at hif
  obtain ⟨h1, h2⟩ := hif
  have h3 : w'.ownsRow w.heap.size 63 6 v' (decE (batN u es)).1.length (entsCells (decE (batN u es)).1) := h2
  have h4 : u' = (decU (batN u es) : Int) := h1
  rw [d3] at h3
  rw [d2] at h4
  subst h4
  obtain ⟨A2, c2, rfl⟩ := own_sliceE h3
  exact ⟨A2, c2, by rw [d1], h3, hbl⟩
set_option maxRecDepth 100000 in
set_option maxHeartbeats 4000000 in
theorem batchBack_walk (x : List Chr) (A : Option Addr) (c : Nat) (us : Int) (tl : UInt8) (m : Int) (w : World) (hx : x.length ≤ 9223372036854775807) (hA : kChr.Row w A x) (hus : (Lit.int .i64 us).wf = true) (hm : w.cell? ⟨0, 0, none⟩ = some (.int .i64 m)) :
    Calls Tryd.prog 3 #[.slice A x.length c, .int .i64 us, .int .u8 tl.toNat] w fun e w' => e = .returned (.bool true) ∧ Below w.heap.size w w' := by
  obtain ⟨i0, hi, hz0, hz1, hz2⟩ := info_parts info_u8
  have hck := bat_check x us
  have htl := tl.toNat_lt
  go_enter Tryd.func3, Tryd.ntmps3
  go_wp2_with fail
  refine (batchOf_calls x A c us w hx hA hus).mono ?_
  rintro e w1 ⟨v, rfl, hrow, hb1⟩
  obtain ⟨A2, c2, rfl⟩ := own_sliceE hrow
  have hes := ownsRow_ents hrow rfl
  have hm1 := cell_later hb1 hm
  clear hrow hA hm hus
  have enc := fun W hE hM => enc_bat x us A2 c2 m W hE hM
  have hl := batN_len _ _ hck
  have hl2 := batN_len2 (pickN us 3) (batE x)
  have hel := (batE_len x).2
  have dec := fun A c W hB hM => dec_own (pickN us 3) (batE x) hck A c m W hB hM
  have mor := dec_more (pickN us 3) (batE x) hck tl
  have hsm := batE_small x
  have chk := fun W hE hM => check_book (pickN us 3) (batE x) A2 c2 m W hE hsm (by omega) hM
  rw [hck] at chk
  generalize batN (pickN us 3) (batE x) = L at *
  generalize batE x = es at *
  generalize pickN us 3 = u at *
  have Enc := Lib.hid enc
  have Dec := Lib.hid dec
  have Mor := Lib.hid mor
  have Chk := Lib.hid chk
  clear enc dec mor chk hsm hck
  have hX := Bk.new w1 [.int .i64 u, .slice A2 es.length c2] 25
  have hbA : Below w1.heap.size w1 (w1.alloc (.cells #[.int .i64 u, .slice A2 es.length c2] 25)) := (Below.refl _ _).alloc (Nat.le_refl _) _
  have hes2 := hes.later hbA
  have hm2 := cell_later hbA hm1
  have hb2 := hb1.trans (hbA.mono hb1.size)
  clear hes hm1 hbA hb1
  go_wp2_with fail
  generalize w1.alloc (.cells #[.int .i64 u, .slice A2 es.length c2] 25) = w2 at *
  refine (Enc.out w2 hes2 hm2).mono ?_
  rintro e w3 ⟨A3, c3, rfl, hrow3, hb3⟩
  have hX3 := hX.later hb3
  have hes3 := hes2.later hb3
  have hm3 := cell_later hb3 hm2
  have hb4 := hb2.trans (hb3.mono hb2.size)
  have hbs := bs_of_own hrow3 rfl
  clear hX hes2 hm2 hb2 hb3 Enc
  go_wp2_with fail
  refine (Dec.out A3 c3 w3 hbs hm3).mono ?_
  rintro e w4 ⟨A4, c4, rfl, hrow4, hb5⟩
  have hX4 := hX3.later hb5
  have hes4 := hes3.later hb5
  have hm4 := cell_later hb5 hm3
  have hb6 := hb4.trans (hb5.mono hb4.size)
  have hrow3b := row_later hb5 hrow3
  have hes5 := ownsRow_ents hrow4 rfl
  clear hX3 hes3 hm3 hb4 hb5 hrow3 hrow4 hbs Dec
  have hXB := hX4.alloc (.cells #[.int .i64 u, .slice A4 es.length c4] 25)
  have hbA : Below w4.heap.size w4 (w4.alloc (.cells #[.int .i64 u, .slice A4 es.length c4] 25)) := (Below.refl _ _).alloc (Nat.le_refl _) _
  have hY := Bk.new w4 [.int .i64 u, .slice A4 es.length c4] 25
  have hes6 := hes4.later hbA
  have hes7 := hes5.later hbA
  have hm5 := cell_later hbA hm4
  have hb7 := hb6.trans (hbA.mono hb6.size)
  have hrow5 := row_later hbA hrow3b
  clear hX4 hbA hes4 hes5 hm4 hb6 hrow3b
  go_upto_region 4 with fail
  generalize w4.alloc (.cells #[.int .i64 u, .slice A4 es.length c4] 25) = w5 at *
  obtain ⟨g, c3', e3⟩ := Joins.ownsRow_form hrow5 (by omega)
  obtain ⟨rfl, _, rfl⟩ := Value.slice.inj e3
  have hnews := hrow5.cells (g := g) rfl
  have hone : ∀ q ∈ u8s L, q.oneCell' = true := by
    intro q hq
    unfold u8s at hq
    obtain ⟨_, _, rfl⟩ := List.mem_map.1 hq
    rfl
  have Hon := Lib.hid hone
  have Hne := Lib.hid hnews
  have Hrow5 := Lib.hid hrow5
  clear hone hnews hrow5 e3
  have hsz5 := hb7.size
  go_wp2_with (first
    | (at_builtin; refine wpList_append_own _ rfl _ _ 27 rfl w5.heap.size 5 i0 (.int .u8 0) 1 1 Tryd.underlying27 hi hz0 hz1 hz2 rfl (by decide) (.slice none 0 0) 0 [] rfl (World.ownsRow_nil _ _ _ _) ⟨g, 0, none⟩ L.length c3 (u8s L) rfl (by rw [u8s_len, Nat.mul_one]) Hne.out Hon.out (by unfold maxLen; omega) (by omega) (Nat.le_refl _) ?_; intro v' w6 hown' hgrow _; rw [Nat.zero_add, List.nil_append] at hown'; obtain ⟨A6, c6, rfl⟩ := own_sliceE hown'; have HB6 := Lib.hid (below_new (B := w5.heap.size) hgrow (Nat.le_refl _)); have HR6 := Lib.hid hown'; clear hown' hgrow)
    | (at_builtin; refine wpList_append_own _ rfl _ _ 27 rfl w5.heap.size 5 i0 (.int .u8 0) 1 1 Tryd.underlying27 hi hz0 hz1 hz2 rfl (by decide) (.slice A6 L.length c6) L.length (u8s L) rfl (HR6.out.alloc _) ⟨w6.heap.size, 0, none⟩ 1 1 [.int .u8 tl.toNat] rfl rfl (new_cells w6 [.int .u8 tl.toNat] _) (by simp [Value.oneCell']) (by unfold maxLen; omega) (by omega) (by have := HB6.out.size; simp; omega) ?_; intro v' w7 hown' hgrow _; have hown8 : w7.ownsRow w5.heap.size 5 1 v' (L ++ [tl]).length (u8s (L ++ [tl])) := (by rw [u8s_append, List.length_append]; exact hown'); have HB7 := Lib.hid (below_append HB6.out HB6.out.size HR6.out hgrow); clear hown' hgrow HR6 HB6; have hlt : (L ++ [tl]).length ≤ 30001 := (by rw [List.length_append]; simp; omega); generalize L ++ [tl] = L2 at *; obtain ⟨A7, c7, rfl⟩ := own_sliceE hown8; have hbs7 := bs_of_own hown8 rfl; have Hdc := Lib.hid (decode_calls A7 c7 L2 m w7 hbs7 (by omega) (cell_later HB7.out hm5)); clear hown8 hbs7)
    | (go_at_call 13; refine Hdc.out.mono ?_; rintro e w8 ⟨u8, v8, rfl, hb8, hif⟩; rw [if_neg (by rw [Mor.out]; decide)] at hif; obtain ⟨rfl, rfl⟩ := hif; rw [Mor.out]; have HB9 := Lib.hid ((HB7.out.trans (hb8.mono HB7.out.size)).alloc (Nat.le_trans HB7.out.size hb8.size) (.cells #[.int .i64 0, .slice none 0 0] 25)); clear hb8 Hdc HB7; have a0 := (hXB.later HB9.out).cell 0 _ rfl; have a1 := (hXB.later HB9.out).cell 1 _ rfl; have b0 := (hY.later HB9.out).cell 0 _ rfl; have b1 := (hY.later HB9.out).cell 1 _ rfl; have Hsb := Lib.hid (same_batch u es A2 A4 c2 c4 _ (hes6.later HB9.out) (hes7.later HB9.out) (by omega)))
    | (go_at_call 14; refine Hsb.out.mono ?_; rintro e w10 ⟨rfl, hb10⟩; have HB10 := Lib.hid (HB9.out.trans (hb10.mono HB9.out.size)); clear hb10 Hsb HB9 a0 a1 b0 b1; have a0 := (hXB.later HB10.out).cell 0 _ rfl; have a1 := (hXB.later HB10.out).cell 1 _ rfl; have Hck := Lib.hid (Chk.out w10 (hes6.later HB10.out) (cell_later HB10.out hm5)))
    | (go_at_call 15; refine Hck.out.mono ?_; rintro e w11 ⟨rfl, hb11⟩; have HB11 := Lib.hid (hb7.trans ((HB10.out.trans (hb11.mono HB10.out.size)).mono hb7.size)); clear hb11 Hck HB10))
  go_ret
  exact ⟨rfl, HB11.out⟩
end Go.Proofs.YtpncahklapfoaaaDoor
