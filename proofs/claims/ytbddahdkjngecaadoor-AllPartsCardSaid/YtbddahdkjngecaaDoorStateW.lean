/- The helper State of the statements: what it returns. -/
import Derived.Test.YtbddahdkjngecaaDoorStateP
namespace Go.Proofs.YtbddahdkjngecaaDoor
open Go.RowKit
set_option linter.unusedVariables false

/-- What State ends in. -/
def StateOk (w : World) (s : StS) (e : Ending) (w' : World) : Prop :=
  ∃ A c A2 c2, e = .returned (.agg #[.slice A s.boxes.length c, .slice A2 s.spool.length c2]) ∧ StAt w' A c A2 c2 s ∧ Below w.heap.size w w'
set_option maxRecDepth 100000 in
set_option maxHeartbeats 4000000 in
theorem state_calls (x : List Chr) (A : Option Addr) (c : Nat) (m : Int) (w : World) (hx : x.length ≤ 9223372036854775807) (hA : kChr.Row w A x) (hm : w.cell? ⟨0, 0, none⟩ = some (.int .i64 m)) :
    Calls Tryd.prog 11 #[.slice A x.length c] w fun e w' => StateOk w (stR x) e w' := by
  have hb1 : Below w.heap.size w ((w.alloc (.cells #[.slice none 0 0, .slice none 0 0] 28)).alloc (.cells #[.string ⟨#[73, 78, 66, 79, 88]⟩, .int .i64 1, .slice none 0 0] 39)) := ((Below.refl _ w).alloc (Nat.le_refl _) _).alloc (by simp) _
  go_enter Tryd.func11, Tryd.ntmps11
  go_wp2_with fail
  have hR : Bk (((w.alloc (.cells #[.slice none 0 0, .slice none 0 0] 28)).alloc (.cells #[.string ⟨#[73, 78, 66, 79, 88]⟩, .int .i64 1, .slice none 0 0] 39)).alloc (.cells #[.slice (some ⟨w.heap.size + 1, 0, none⟩) 1 1, .slice none 0 0] 28)) w.heap.size [.slice none 0 0, .slice none 0 0] 28 := ((Bk.new w [.slice none 0 0, .slice none 0 0] 28).alloc _).alloc _
  have hT := Bk.new ((w.alloc (.cells #[.slice none 0 0, .slice none 0 0] 28)).alloc (.cells #[.string ⟨#[73, 78, 66, 79, 88]⟩, .int .i64 1, .slice none 0 0] 39)) [.slice (some ⟨w.heap.size + 1, 0, none⟩) 1 1, .slice none 0 0] 28
  have hX := (Bk.new (w.alloc (.cells #[.slice none 0 0, .slice none 0 0] 28)) [.string ⟨#[73, 78, 66, 79, 88]⟩, .int .i64 1, .slice none 0 0] 39).alloc (.cells #[.slice (some ⟨w.heap.size + 1, 0, none⟩) 1 1, .slice none 0 0] 28)
  have hb2 := hb1.alloc hb1.size (.cells #[.slice (some ⟨w.heap.size + 1, 0, none⟩) 1 1, .slice none 0 0] 28)
  rw [show ((w.alloc (.cells #[.slice none 0 0, .slice none 0 0] 28)).alloc (.cells #[.string ⟨#[73, 78, 66, 79, 88]⟩, .int .i64 1, .slice none 0 0] 39)).heap.size = w.heap.size + 2 by simp] at hT
  rw [show (w.alloc (.cells #[.slice none 0 0, .slice none 0 0] 28)).heap.size = w.heap.size + 1 by simp] at hX
  generalize ((w.alloc (.cells #[.slice none 0 0, .slice none 0 0] 28)).alloc (.cells #[.string ⟨#[73, 78, 66, 79, 88]⟩, .int .i64 1, .slice none 0 0] 39)).alloc (.cells #[.slice (some ⟨w.heap.size + 1, 0, none⟩) 1 1, .slice none 0 0] 28) = w1 at *
  have hat : StAt w1 (some ⟨w.heap.size + 1, 0, none⟩) 1 none 0 inbS := by
    refine ⟨fun j b hj => ?_, Nat.le_refl _, fun j h => by simp [inbS] at h, fun _ => rfl⟩
    match j, hj with
    | 0, hj =>
      simp [inbS] at hj
      subst hj
      exact ⟨w.heap.size + 1, 0, none, 0, rfl, hX.cell 0 _ rfl, hX.cell 1 _ rfl, hX.cell 2 _ rfl, ⟨Nat.le_refl _, fun _ => rfl⟩, fun i m hi => by simp at hi⟩
    | j + 1, hj => simp [inbS] at hj
  have Hat0 := Lib.hid hat
  have Hb2 := Lib.hid hb2
  have Hm := Lib.hid hm
  have HA := Lib.hid hA
  clear hb1 hb2 hm hA hat hX
  go_loopw [4] (fun i wr => ∃ (k : Nat) (A : Option Addr) (c : Nat) (A2 : Option Addr) (c2 : Nat) (s : StS), k ≤ x.length ∧ k ≤ 40 ∧ i = .int .i64 k ∧ Hid (s = ((x.take k).map entC).foldl stepS inbS) ∧ Bk wr w.heap.size [.slice none 0 0, .slice none 0 0] 28 ∧ Bk wr (w.heap.size + 2) [.slice A s.boxes.length c, .slice A2 s.spool.length c2] 28 ∧ Hid (StAt wr A c A2 c2 s) ∧ Hid (Below w.heap.size w wr)) (fun i _ => x.length - (intOf i).toNat)
  case atStart => exact ⟨0, _, _, _, _, inbS, Nat.zero_le _, Nat.zero_le _, rfl, Lib.hid rfl, hR, hT, Hat0, Hb2⟩
  case round =>
    obtain ⟨k, Ak, ck, Ak2, ck2, s, hk, hk40, rfl, Hs, hR', hT', Hat, Hb⟩ := hrel
    clear hR hT Hat0 Hb2
    by_cases hlt : k < x.length ∧ k < 40
    · obtain ⟨hlt1, hlt2⟩ := hlt
      obtain ⟨lb, lo, rfl, cs, hkk, hcs⟩ := (HA.out.later (w' := wr) Hb.out).get k hlt1
      obtain ⟨rfl, q0, q1, q2, q3, q4, q5⟩ := kChr_cells hkk
      unfold maxLen at q0
      have hd := bel_drew wr
      have c0 := cell_later hd (hcs 0 _ rfl)
      have c1 := cell_later hd (hcs 1 _ rfl)
      have c2 := cell_later hd (hcs 2 _ rfl)
      have c3 := cell_later hd (hcs 3 _ rfl)
      have c4 := cell_later hd (hcs 4 _ rfl)
      have c5 := cell_later hd (hcs 5 _ rfl)
      rw [show lo + (k * kChr.sz + 0) = lo + k * 6 from rfl] at c0
      rw [show lo + (k * kChr.sz + 1) = lo + k * 6 + 1 from rfl] at c1
      rw [show lo + (k * kChr.sz + 2) = lo + k * 6 + 2 from rfl] at c2
      rw [show lo + (k * kChr.sz + 3) = lo + k * 6 + 3 from rfl] at c3
      rw [show lo + (k * kChr.sz + 4) = lo + k * 6 + 4 from rfl] at c4
      rw [show lo + (k * kChr.sz + 5) = lo + k * 6 + 5 from rfl] at c5
      have t0 := cell_later hd (hT'.cell 0 _ rfl)
      have t1 := cell_later hd (hT'.cell 1 _ rfl)
      have hst : ((x.take (k + 1)).map entC).foldl stepS inbS = if (allR s [entC x[k]]).1 = 0 then (allR s [entC x[k]]).2 else s := by
        rw [Hs.out, List.take_succ_eq_append_getElem hlt1, List.map_append, List.foldl_append]; rfl
      have hv : Vld s := by rw [Hs.out]; exact vld_fold _ _ vld_inb
      have hsm := entC_small x[k]
      generalize x[k] = z at *
      have hec := fun W => entry_calls z W q1 q2 q3 q4 q5 (by omega)
      have hap := fun W (hW : Below wr.drew.heap.size wr.drew W) => aply_ok s (entC z) Ak Ak2 ck ck2 m W ((Hat.out.later hd).later hW) hv hsm (cell_later hW (cell_later hd (cell_later Hb.out Hm.out)))
      have hmk := fun (W : World) (hW : Below wr.drew.heap.size wr.drew W) => And.intro (cell_later hW t0) (And.intro (cell_later hW t1) (And.intro (cell_later hW c0) (And.intro (cell_later hW c1) (And.intro (cell_later hW c2) (And.intro (cell_later hW c3) (And.intro (cell_later hW c4) (And.intro (cell_later hW c5) hW)))))))
      have Hmk := Lib.hid hmk
      have Hec := Lib.hid hec
      have Hap := Lib.hid hap
      have Hst := Lib.hid hst
      clear hst hec hcs hkk q1 q2 q3 q4 q5 hap hmk hsm hv
      generalize entC z = en at *
      generalize allR s [en] = r at *
      obtain ⟨k', b', u', f', d', t'⟩ := en
      unfold entVal at Hec Hap
      have hk0 : (0 : Int) ≤ (k : Int) := by omega
      have hkn : (k : Int) < (x.length : Int) := by omega
      have hkm2 : (k : Int) < 40 := by omega
      have hKK := Hmk.out wr.drew (Below.refl _ _)
      go_wp2_with fail
      go_region_held3 (fun W => W.cell? ⟨w.heap.size + 2, 0, none⟩ = some (.slice Ak s.boxes.length ck) ∧ W.cell? ⟨w.heap.size + 2, 1, none⟩ = some (.slice Ak2 s.spool.length ck2) ∧ W.cell? ⟨lb, lo + k * 6, none⟩ = some (.int .i64 z.kind) ∧ W.cell? ⟨lb, lo + k * 6 + 1, none⟩ = some (.int .i64 z.box) ∧ W.cell? ⟨lb, lo + k * 6 + 2, none⟩ = some (.int .i64 z.uid) ∧ W.cell? ⟨lb, lo + k * 6 + 3, none⟩ = some (.int .i64 z.flags) ∧ W.cell? ⟨lb, lo + k * 6 + 4, none⟩ = some (.int .i64 z.dst) ∧ W.cell? ⟨lb, lo + k * 6 + 5, none⟩ = some (.string z.text) ∧ Below wr.drew.heap.size wr.drew W) (first | exact hKK | exact Hmk.out _ (bel_al (b8 (by first | assumption | exact hS)) _) | (refine Hmk.out _ (Below.setCell (Below.setCell (b8 (by first | assumption | exact hS)) ?_ _) ?_ _) <;> first | exact Nat.le_refl _ | exact hq8 | exact hq9))
        (first
          | (go_at_call 12; (with_reducible refine (Hec.out _).mono ?_); rintro e w8 ⟨rfl, hb8⟩; have hKK := Hmk.out w8 (bel_tr (b8 (by first | assumption | exact hS)) hb8); have hq8 := (b8 hKK).size; try have hB5 : Bk w8 wr.heap.size [.slice none 0 0, .slice none 0 0] 28 := (Bk.new wr.drew [.slice none 0 0, .slice none 0 0] 28).later hb8)
          | (go_at_call 13; (with_reducible refine (Hap.out _ ?_).mono ?_); exact b8 (by first | assumption | exact hS); rintro e w9 ⟨A9, c9, A92, c92, rfl, hat9, hown9, hb9⟩; have hKK := Hmk.out w9 (bel_tr (b8 (by first | assumption | exact hS)) hb9); have hq9 := (b8 hKK).size; (first | have hB9 := (Bk.new w8 [.slice none 0 0, .slice none 0 0] 28).later hb9 | have hB9 := hB5.later hb9 | skip); try (have y0 := hB9.cell 0 _ rfl; have y1 := hB9.cell 1 _ rfl; have f0 := hB9.frozen 0; have f1 := hB9.frozen 1)))
      all_goals (
        first
          | (have hW := afk_set (b8 hKK) (show Bk w9 w8.heap.size [.slice none 0 0, .slice none 0 0] 28 from hB9) hown9 (by simp) hq8
             clear hKK hat9 hown9 hb9 hq9 hd t0 t1 c0 c1 c2 c3 c4 c5 Hmk Hec Hap
             generalize (w9.setCell ⟨w8.heap.size, 0, none⟩ (.slice A9 r.2.boxes.length c9)).setCell ⟨w8.heap.size, 1, none⟩ (.slice A92 r.2.spool.length c92) = W at *
             generalize w8.heap.size = q at *)
          | (have hW := afk_set (b8 hKK) (show Bk w9 wr.heap.size [.slice none 0 0, .slice none 0 0] 28 from hB9) hown9 hB5.lt (Nat.le_refl _)
             clear hKK hat9 hown9 hb9 hq9 hd t0 t1 c0 c1 c2 c3 c4 c5 Hmk Hec Hap
             generalize (w9.setCell ⟨wr.heap.size, 0, none⟩ (.slice A9 r.2.boxes.length c9)).setCell ⟨wr.heap.size, 1, none⟩ (.slice A92 r.2.spool.length c92) = W at *)
          | (have hW := afk_new (b8 hKK) hown9 hq8
             clear hKK hat9 hown9 hb9 hq9 hd t0 t1 c0 c1 c2 c3 c4 c5 Hmk Hec Hap
             generalize w9.alloc (.cells #[.slice A9 r.2.boxes.length c9, .slice A92 r.2.spool.length c92] 28) = W at *
             generalize w9.heap.size = q at *)
        have q0 := hW.b.cell 0 _ rfl
        have q1 := hW.b.cell 1 _ rfl
        have hR2 := hR'.later hW.l
        have hT2 := hT'.later hW.l
        have t0 := hT2.cell 0 _ rfl
        have t1 := hT2.cell 1 _ rfl
        have g0 := hT2.frozen 0
        have g1 := hT2.frozen 1
        have hb2 := Hb.out.trans (hW.l.mono Hb.out.size)
        have hlt3 := hT'.lt
        have Ho := Lib.hid hW.o
        have hat2 := Hat.out.later hW.l
        have Hat2 := Lib.hid hat2
        have HR2 := Lib.hid hR2
        have HT2 := Lib.hid hT2
        have Hb2 := Lib.hid hb2
        clear hat2 hW hR' hT' Hat Hb hR2 hT2 hb2
        by_cases hz : r.1 = 0
        · have hst := Hst.out
          rw [if_pos hz] at hst
          have Hst2 := Lib.hid hst.symm
          obtain ⟨B, vm, p, hB, hO⟩ := Ho.out hz
          have hO2 := (hO.setOther (w.heap.size + 2) 0 (.slice A9 r.2.boxes.length c9) (by omega)).setOther (w.heap.size + 2) 1 (.slice A92 r.2.spool.length c92) (by omega)
          have hat3 := hO2.at rfl rfl
          have Hat3 := Lib.hid hat3
          have hR3 := (HR2.out.other (c := w.heap.size + 2) (by omega) 0 (.slice A9 r.2.boxes.length c9)).other (c := w.heap.size + 2) (by omega) 1 (.slice A92 r.2.spool.length c92)
          have hT3 := (HT2.out.set 0 (.slice A9 r.2.boxes.length c9)).set 1 (.slice A92 r.2.spool.length c92)
          have hb3 := (Hb2.out.setCell (p := ⟨w.heap.size + 2, 0, none⟩) (by show w.heap.size ≤ w.heap.size + 2; omega) (.slice A9 r.2.boxes.length c9)).setCell (p := ⟨w.heap.size + 2, 1, none⟩) (by show w.heap.size ≤ w.heap.size + 2; omega) (.slice A92 r.2.spool.length c92)
          have Hb3 := Lib.hid hb3
          have HR3 := Lib.hid hR3
          have HT3 := Lib.hid hT3
          rw [hz]
          clear hst hz hO hO2 hat3 hR3 hT3 hb3 HR2 HT2 Hb2 Ho Hst
          go_wp2_with fail
          go_roundw
          case rel => exact ⟨k + 1, A9, c9, A92, c92, r.2, by omega, by omega, by go_num, Hst2, HR3.out, HT3.out, Hat3, Hb3⟩
          case measure => simp [intOf]; omega
        · have hst := Hst.out
          rw [if_neg hz] at hst
          have Hst2 := Lib.hid hst.symm
          have hne : (r.1 == 0) = false := by simpa using hz
          clear hst hz Ho Hst
          generalize r.1 = z at *
          go_wp2_with fail
          go_roundw
          case rel => exact ⟨k + 1, Ak, ck, Ak2, ck2, s, by omega, by omega, by go_num, Hst2, HR2.out, HT2.out, Hat2, Hb2⟩
          case measure => simp [intOf]; omega)
    · have he : s = stR x := by
        rw [Hs.out]
        unfold stR
        by_cases h8 : k = 40
        · rw [h8]
        · rw [List.take_of_length_le (show x.length ≤ k by omega), List.take_of_length_le (show x.length ≤ 40 by omega)]
      rw [he] at hT' Hat
      have hcase : x.length ≤ k ∨ 40 ≤ k := by omega
      clear he Hs
      have e0 := hT'.cell 0 _ rfl
      have e1 := hT'.cell 1 _ rfl
      have r0 := hR'.cell 0 _ rfl
      have r1 := hR'.cell 1 _ rfl
      have g0 := hR'.frozen 0
      have g1 := hR'.frozen 1
      have hR3 := (hR'.set 0 (.slice Ak (stR x).boxes.length ck)).set 1 (.slice Ak2 (stR x).spool.length ck2)
      have z0 := hR3.cell 0 _ rfl
      have z1 := hR3.cell 1 _ rfl
      have hb3 := (Hb.out.setCell (p := ⟨w.heap.size, 0, none⟩) (Nat.le_refl _) (.slice Ak (stR x).boxes.length ck)).setCell (p := ⟨w.heap.size, 1, none⟩) (Nat.le_refl _) (.slice Ak2 (stR x).spool.length ck2)
      have hat3 : StAt ((wr.setCell ⟨w.heap.size, 0, none⟩ (.slice Ak (stR x).boxes.length ck)).setCell ⟨w.heap.size, 1, none⟩ (.slice Ak2 (stR x).spool.length ck2)) Ak ck Ak2 ck2 (stR x) := (Hat.out.setSl hR' 0 _).setSl (hR'.set 0 _) 1 _
      have Hat3 := Lib.hid hat3
      have Hb3 := Lib.hid hb3
      clear hR3 hb3 hat3 hT' hR' Hat Hb hlt
      by_cases h1 : k < x.length
      · have hkn : (k : Int) < (x.length : Int) := by omega
        obtain rfl : k = 40 := by omega
        clear hcase
        go_wp2_with fail
        exact bodyPost_ret (v := .agg #[.slice Ak (stR x).boxes.length ck, .slice Ak2 (stR x).spool.length ck2]) (by simp [results, Tryd.results11, go_sem, z0, z1]) rfl ⟨_, _, _, _, rfl, Hat3.out, Hb3.out⟩
      · obtain rfl : k = x.length := by omega
        clear hcase
        go_wp2_with fail
        exact bodyPost_ret (v := .agg #[.slice Ak (stR x).boxes.length ck, .slice Ak2 (stR x).spool.length ck2]) (by simp [results, Tryd.results11, go_sem, z0, z1]) rfl ⟨_, _, _, _, rfl, Hat3.out, Hb3.out⟩
end Go.Proofs.YtbddahdkjngecaaDoor
