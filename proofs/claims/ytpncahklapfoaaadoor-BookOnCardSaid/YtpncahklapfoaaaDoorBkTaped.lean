/- The helper taped of the statements: a tape with batches. -/
import Derived.Test.YtpncahklapfoaaaDoorBkApp
namespace Go.Proofs.YtpncahklapfoaaaDoor
open Go.RowKit
set_option linter.unusedVariables false

/-- Append to a tape of which nothing is synced. -/
theorem append_zero (A Ae : Option Addr) (c ce : Nat) (l : List UInt8) (b : BatS) (m : Int) (w : World) (hA : BS w w.heap.size A c l) (hE : EsAt w Ae b.es) (hg : GoodB b) (hl : l.length + (frameN b).length ≤ 100000) (hm : w.cell? ⟨0, 0, none⟩ = some (.int .i64 m)) :
    Calls Tryd.prog 22 #[.agg #[.slice A l.length c, .int .i64 0], .agg #[.int .i64 b.user, .slice Ae b.es.length ce]] w fun e w' => ∃ A c, e = .returned (.tuple #[.agg #[.slice A (l ++ frameN b).length c, .int .i64 0], .int .i64 0]) ∧ w'.ownsRow w.heap.size 5 1 (.slice A (l ++ frameN b).length c) (l ++ frameN b).length (u8s (l ++ frameN b)) ∧ Below w.heap.size w w' :=
  append_calls A Ae c ce l 0 b m w hA hE hg hl (Nat.zero_le _) hm
/-- What stands behind Append in a round of taped: the new tape in a block of its own. -/
structure TpK (wr W : World) (q : Nat) (A9 : Option Addr) (c9 n9 : Nat) (xs : List Value) : Prop where
  b : Bk W q [.slice A9 n9 c9, .int .i64 0] 42
  l : Below wr.heap.size wr W
  q : wr.heap.size ≤ q
  o : W.ownsRow wr.heap.size 5 1 (.slice A9 n9 c9) n9 xs
theorem tp_set {wr w9 : World} {q n9 c9 : Nat} {A9 : Option Addr} {xs : List Value} (hd : Below wr.heap.size wr w9) (hB : Bk w9 q [.slice none 0 0, .int .i64 0] 42) (ho : w9.ownsRow wr.heap.size 5 1 (.slice A9 n9 c9) n9 xs) (hq : wr.heap.size ≤ q) :
    TpK wr ((w9.setCell ⟨q, 0, none⟩ (.slice A9 n9 c9)).setCell ⟨q, 1, none⟩ (.int .i64 0)) q A9 c9 n9 xs :=
  ⟨(hB.set 0 _).set 1 _, (hd.setCell (p := ⟨q, 0, none⟩) hq _).setCell (p := ⟨q, 1, none⟩) hq _, hq, own_set (own_set ho hB (by decide) 0 _) (hB.set 0 _) (by decide) 1 _⟩
theorem tp_new {wr w9 : World} {n9 c9 : Nat} {A9 : Option Addr} {xs : List Value} (hd : Below wr.heap.size wr w9) (ho : w9.ownsRow wr.heap.size 5 1 (.slice A9 n9 c9) n9 xs) :
    TpK wr (w9.alloc (.cells #[.slice A9 n9 c9, .int .i64 0] 42)) w9.heap.size A9 c9 n9 xs :=
  ⟨Bk.new w9 [.slice A9 n9 c9, .int .i64 0] _, hd.alloc hd.size _, hd.size, row_later ((Below.refl _ w9).alloc (Nat.le_refl _) _) ho⟩
/-- What taped ends in. -/
def TapedOk (w : World) (l : List BatS) (e : Ending) (w' : World) : Prop :=
  ∃ A c, e = .returned (.tuple #[.agg #[.slice A (tapeN l).length c, .int .i64 0], .bool true]) ∧ w'.ownsRow w.heap.size 5 1 (.slice A (tapeN l).length c) (tapeN l).length (u8s (tapeN l)) ∧ Below w.heap.size w w'
set_option maxRecDepth 100000 in
set_option maxHeartbeats 4000000 in
theorem taped_calls (l : List BatS) (A : Option Addr) (c : Nat) (m : Int) (w : World) (hA : BatsAt w A l) (hg : ∀ b ∈ l, GoodB b) (hl : l.length ≤ 28) (hm : w.cell? ⟨0, 0, none⟩ = some (.int .i64 m)) :
    Calls Tryd.prog 18 #[.slice A l.length c] w fun e w' => TapedOk w l e w' := by
  have htl := tapeN_len l hg
  obtain ⟨W, hW⟩ : ∃ W, W = (w.alloc (.cells #[.slice none 0 0, .int .i64 0] 42)).alloc (.cells #[.slice none 0 0, .int .i64 0] 42) := ⟨_, rfl⟩
  have hX : Bk W w.heap.size [.slice none 0 0, .int .i64 0] 42 := by rw [hW]; exact (Bk.new w [.slice none 0 0, .int .i64 0] _).alloc _
  have hR : Bk W (w.heap.size + 1) [.slice none 0 0, .int .i64 0] 42 := by
    have h := Bk.new (w.alloc (.cells #[.slice none 0 0, .int .i64 0] 42)) [.slice none 0 0, .int .i64 0] 42
    rw [show (w.alloc (.cells #[.slice none 0 0, .int .i64 0] 42)).heap.size = w.heap.size + 1 by simp] at h
    rw [hW]; exact h
  have hb1 : Below w.heap.size w W := by rw [hW]; exact ((Below.refl _ w).alloc (Nat.le_refl _) _).alloc (by simp) _
  have hs1 : w.heap.size + 2 ≤ W.heap.size := by rw [hW]; simp
  have HX := Lib.hid hX
  have HR := Lib.hid hR
  have Hb1 := Lib.hid hb1
  have Hg := Lib.hid hg
  clear hX hR hb1 hg
  go_enter Tryd.func18, Tryd.ntmps18
  go_upto_region 3 with fail
  rw [← hW]
  clear hW
  go_loopw [5] (fun i wr => ∃ (k : Nat) (v : Option Addr) (cv : Nat), k ≤ l.length ∧ i = .int .i64 k ∧ Bk wr (w.heap.size + 1) [.slice v (tapeN (l.take k)).length cv, .int .i64 0] 42 ∧ Hid (wr.ownsRow w.heap.size 5 1 (.slice v (tapeN (l.take k)).length cv) (tapeN (l.take k)).length (u8s (tapeN (l.take k)))) ∧ Bk wr w.heap.size [.slice none 0 0, .int .i64 0] 42 ∧ Hid (Below w.heap.size w wr)) (fun i _ => l.length - (intOf i).toNat)
  case atStart => exact ⟨0, none, 0, Nat.zero_le _, rfl, HR.out, Lib.hid (World.ownsRow_nil _ _ _ _), HX.out, Hb1⟩
  case round =>
    obtain ⟨k, v, cv, hk, rfl, hT, HO, hX, Hb⟩ := hrel
    clear HX HR Hb1
    by_cases hlt : k < l.length
    · have hd := bdr wr
      have hga : l[k]? = some l[k] := by simp [hlt]
      obtain ⟨g, off, Ae, ce, rfl, c0, c1, hea⟩ := (hA.later Hb.out).later hd k l[k] hga
      have hgb := Hg.out l[k] (List.getElem_mem hlt)
      have htk : tapeN (l.take (k + 1)) = tapeN (l.take k) ++ frameN l[k] := by rw [List.take_succ_eq_append_getElem hlt, tapeN_snoc]
      have hlk : (tapeN (l.take k)).length ≤ k * 3503 := by
        have := tapeN_len (l.take k) fun b hb => Hg.out b (List.mem_of_mem_take hb)
        have h2 : (l.take k).length ≤ k := by rw [List.length_take]; omega
        omega
      generalize l[k] = b at *
      have hfr := frameN_pos b
      have hfl : (frameN b).length ≤ 3503 := by rw [frameN_len]; have := hgb.ln; omega
      generalize tapeN (l.take k) = T at *
      have t0 := hT.cell 0 _ rfl
      have t1 := hT.cell 1 _ rfl
      have hbs := bs_of_own HO.out rfl
      have hap := fun W (hW : Below wr.drew.heap.size wr.drew W) => append_zero v Ae cv ce T b m W ((hbs.later hd).later hW) (hea.later hW) hgb (by omega) (cell_later hW (cell_later hd (cell_later Hb.out hm)))
      have hT2l : T.length < (T ++ frameN b).length := by rw [List.length_append]; omega
      have hT2m : (T ++ frameN b).length ≤ 100000 := by rw [List.length_append]; omega
      generalize T ++ frameN b = T2 at *
      have hmk := fun (W : World) (hW : Below wr.drew.heap.size wr.drew W) => And.intro (cell_later hW (cell_later hd t0)) (And.intro (cell_later hW (cell_later hd t1)) (And.intro (cell_later hW c0) (And.intro (cell_later hW c1) hW)))
      have Hmk := Lib.hid hmk
      have Hap := Lib.hid hap
      have Htk := Lib.hid htk
      have HT := Lib.hid hT
      have HX := Lib.hid hX
      have hk0 : (0 : Int) ≤ (k : Int) := by omega
      have hkn : (k : Int) < (l.length : Int) := by omega
      have hKK := Hmk.out wr.drew (Below.refl _ _)
      clear hmk hap htk hea c0 c1 t0 t1 hga hd hbs hT hX
      go_wp2_with fail
      go_region_held3 (fun W => W.cell? ⟨w.heap.size + 1, 0, none⟩ = some (.slice v T.length cv) ∧ W.cell? ⟨w.heap.size + 1, 1, none⟩ = some (.int .i64 0) ∧ W.cell? ⟨g, off + k * 2, none⟩ = some (.int .i64 b.user) ∧ W.cell? ⟨g, off + k * 2 + 1, none⟩ = some (.slice Ae b.es.length ce) ∧ Below wr.drew.heap.size wr.drew W) (first | exact hKK | exact Hmk.out _ (bal (k4 (by first | assumption | exact hS)) _) | (refine Hmk.out _ (Below.setCell (Below.setCell (k4 (by first | assumption | exact hS)) ?_ _) ?_ _) <;> first | exact Nat.le_refl _ | exact hq8))
        (first | (go_at_call 22; (with_reducible refine (Hap.out _ ?_).mono ?_); exact k4 (by first | assumption | exact hS); rintro e w9 ⟨A9, c9, rfl, ho9, hb9⟩; have hKK := Hmk.out w9 (btr (k4 (by first | assumption | exact hS)) hb9); try (have hB9 : Bk w9 wr.heap.size [.slice none 0 0, .int .i64 0] 42 := (Bk.new wr.drew [.slice none 0 0, .int .i64 0] 42).later hb9; have y0 := hB9.cell 0 _ rfl; have y1 := hB9.cell 1 _ rfl; have f0 := hB9.frozen 0; have f1 := hB9.frozen 1)))
      all_goals (
        first
          | (have hW := tp_set (k4 hKK) hB9 (row_base (base2 := wr.drew.heap.size) (by simp) ho9) (Nat.le_refl _)
             clear hKK hb9 Hmk Hap ho9
             generalize (w9.setCell ⟨wr.heap.size, 0, none⟩ (.slice A9 T2.length c9)).setCell ⟨wr.heap.size, 1, none⟩ (.int .i64 0) = W at *)
          | (have hW := tp_new (k4 hKK) ho9
             clear hKK hb9 Hmk Hap ho9
             generalize w9.alloc (.cells #[.slice A9 T2.length c9, .int .i64 0] 42) = W at *))
      all_goals (
        obtain ⟨hB6, hbl, hqq, hro⟩ := hW
        have hbw := btr (bdr wr) hbl
        have hT6 := HT.out.later hbw
        have hX6 := HX.out.later hbw
        have y0 := hB6.cell 0 _ rfl
        have y1 := hB6.cell 1 _ rfl
        have t0 := hT6.cell 0 _ rfl
        have t1 := hT6.cell 1 _ rfl
        have f0 := hT6.frozen 0
        have f1 := hT6.frozen 1
        have hle : ¬ (T2.length : Int) ≤ (T.length : Int) := by omega
        have hT8 := (hT6.set 0 (.slice A9 T2.length c9)).set 1 (.int .i64 0)
        have hX8 := (hX6.other (c := w.heap.size + 1) (by omega) 0 (.slice A9 T2.length c9)).other (c := w.heap.size + 1) (by omega) 1 (.int .i64 0)
        have hr8 := own_set (own_set hro hT6 (by decide) 0 (.slice A9 T2.length c9)) (hT6.set 0 (.slice A9 T2.length c9)) (by decide) 1 (.int .i64 0)
        have hb8 := ((btr Hb.out hbw).setCell (p := ⟨w.heap.size + 1, 0, none⟩) (by show w.heap.size ≤ w.heap.size + 1; omega) (.slice A9 T2.length c9)).setCell (p := ⟨w.heap.size + 1, 1, none⟩) (by show w.heap.size ≤ w.heap.size + 1; omega) (.int .i64 0)
        have HT8 := Lib.hid hT8
        have HX8 := Lib.hid hX8
        have HR8 := Lib.hid (row_base (base2 := w.heap.size) Hb.out.size hr8)
        have Hb8 := Lib.hid hb8
        clear hT8 hX8 hr8 hb8 hbw hT6 hX6 hB6 hbl hqq hro hT2l
        go_wp2_with fail
        go_roundw
        case rel => exact ⟨k + 1, A9, c9, by omega, by go_num, by rw [Htk.out]; exact HT8.out, by rw [Htk.out]; exact HR8, HX8.out, Hb8⟩
        case measure => simp [intOf]; omega)
    · obtain rfl : k = l.length := by omega
      rw [List.take_length] at hT HO
      generalize hTT : tapeN l = T at *
      have HTT := Lib.hid hTT
      clear hTT
      have t0 := hT.cell 0 _ rfl
      have t1 := hT.cell 1 _ rfl
      have r0 := hX.cell 0 _ rfl
      have r1 := hX.cell 1 _ rfl
      have f0 := hX.frozen 0
      have f1 := hX.frozen 1
      have hZ := (hX.set 0 (.slice v T.length cv)).set 1 (.int .i64 0)
      have z0 := hZ.cell 0 _ rfl
      have z1 := hZ.cell 1 _ rfl
      have hrz := own_set (own_set HO.out hX (by decide) 0 (.slice v T.length cv)) (hX.set 0 (.slice v T.length cv)) (by decide) 1 (.int .i64 0)
      have hbz := (Hb.out.setCell (p := ⟨w.heap.size, 0, none⟩) (Nat.le_refl _) (.slice v T.length cv)).setCell (p := ⟨w.heap.size, 1, none⟩) (Nat.le_refl _) (.int .i64 0)
      have Hrz := Lib.hid hrz
      have Hbz := Lib.hid hbz
      clear hrz hbz hT hX hZ
      go_wp2_with fail
      exact bodyPost_ret (v := .tuple #[.agg #[.slice v T.length cv, .int .i64 0], .bool true]) (by simp [results, Tryd.results18, go_sem, z0, z1]) rfl (by unfold TapedOk; rw [HTT.out]; exact ⟨v, cv, rfl, Hrz.out, Hbz.out⟩)
end Go.Proofs.YtpncahklapfoaaaDoor
