/- The helper batchesOf of the statements: batches of raw numbers. -/
import Derived.Test.YtpncahklapfoaaaDoorBats
import Derived.WalkSpells
import Derived.Maps.AppendAt
import Derived.Deep.CutRange
import Derived.Deep.DeepCutAuto
import Derived.Outline
namespace Go.Proofs.YtpncahklapfoaaaDoor
open Go.RowKit
set_option linter.unusedVariables false

theorem k1 {a B : Prop} (k : a ∧ B) : B := k.2
theorem Rk.Row.part {α : Type} {d : Rk α} {w : World} {A : Option Addr} {xs : List α} (h : d.Row w A xs) (i n : Nat) (A2 : Option Addr) (hA2 : ∀ b off, A = some ⟨b, off, none⟩ → i < xs.length → A2 = some ⟨b, off + i * d.sz, none⟩) : d.Row w A2 ((xs.drop i).take n) := by
  by_cases hi : i < xs.length
  · rcases h with rfl | ⟨b, off, e, h⟩
    · simp at hi
    · refine .inr ⟨b, off + i * d.sz, hA2 b off e hi, fun j hj => ?_⟩
      rw [List.length_take, List.length_drop] at hj
      obtain ⟨cs, hk, hc⟩ := h (i + j) (by omega)
      refine ⟨cs, by rw [List.getElem_take, List.getElem_drop]; exact hk, fun l u hu => ?_⟩
      have := hc l u hu
      rw [Nat.add_mul] at this
      rw [show off + i * d.sz + (j * d.sz + l) = off + (i * d.sz + j * d.sz + l) by omega]
      exact this
  · left
    rw [List.drop_of_length_le (by omega), List.take_nil]
/-- What stands behind batchOf in a round: the new batch in a block of its own. -/
structure OfK (wr W : World) (q : Nat) (u : Int) (A9 : Option Addr) (c9 n9 : Nat) (xs : List Value) : Prop where
  b : Bk W q [.int .i64 u, .slice A9 n9 c9] 25
  l : Below wr.heap.size wr W
  q : wr.heap.size ≤ q
  o : W.ownsRow wr.heap.size 63 6 (.slice A9 n9 c9) n9 xs
theorem of_set {wr w9 : World} {q n9 c9 : Nat} {u : Int} {A9 : Option Addr} {xs : List Value} (hd : Below wr.heap.size wr w9) (hB : Bk w9 q [.int .i64 0, .slice none 0 0] 25) (ho : w9.ownsRow wr.heap.size 63 6 (.slice A9 n9 c9) n9 xs) (hq : wr.heap.size ≤ q) :
    OfK wr ((w9.setCell ⟨q, 0, none⟩ (.int .i64 u)).setCell ⟨q, 1, none⟩ (.slice A9 n9 c9)) q u A9 c9 n9 xs :=
  ⟨(hB.set 0 _).set 1 _, (hd.setCell (p := ⟨q, 0, none⟩) hq _).setCell (p := ⟨q, 1, none⟩) hq _, hq, own_set (own_set ho hB (by decide) 0 _) (hB.set 0 _) (by decide) 1 _⟩
theorem of_new {wr w9 : World} {n9 c9 : Nat} {u : Int} {A9 : Option Addr} {xs : List Value} (hd : Below wr.heap.size wr w9) (ho : w9.ownsRow wr.heap.size 63 6 (.slice A9 n9 c9) n9 xs) :
    OfK wr (w9.alloc (.cells #[.int .i64 u, .slice A9 n9 c9] 25)) w9.heap.size u A9 c9 n9 xs :=
  ⟨Bk.new w9 [.int .i64 u, .slice A9 n9 c9] _, hd.alloc hd.size _, hd.size, row_later ((Below.refl _ w9).alloc (Nat.le_refl _) _) ho⟩
/-- What batchesOf ends in. -/
def BatsOk (w : World) (e : Ending) (w' : World) : Prop :=
  ∃ bs A c, e = .returned (.slice A bs.length c) ∧ bs.length ≤ 24 ∧ (∀ b ∈ bs, GoodB b) ∧ RowB w' w.heap.size (.slice A bs.length c) bs ∧ Below w.heap.size w w'
set_option maxRecDepth 100000 in
set_option maxHeartbeats 4000000 in
theorem batchesOf_calls (x : List Chr) (A : Option Addr) (c : Nat) (w : World) (hx : x.length ≤ 9223372036854775807) (hc : x.length ≤ c) (hcm : c ≤ 9223372036854775807) (hA : kChr.Row w A x) :
    Calls Tryd.prog 17 #[.slice A x.length c] w fun e w' => BatsOk w e w' := by
  obtain ⟨i0, hi, hz0, hz1, hz2⟩ := info_parts info_bat
  go_enter Tryd.func17, Tryd.ntmps17
  go_wp2_with fail
  go_loopw [3, 4] (fun v i wr => ∃ (k : Nat) (q : List (BatS × Value)), k ≤ x.length ∧ i = .int .i64 k ∧ q.length ≤ k ∧ q.length ≤ 24 ∧ Hid (∀ p ∈ q, GoodB p.1) ∧ Hid (RowQ wr w.heap.size v q) ∧ Hid (Below w.heap.size w wr)) (fun _ i _ => x.length - (intOf i).toNat)
  case atStart => exact ⟨0, [], Nat.zero_le _, rfl, Nat.le_refl _, Nat.zero_le _, Lib.hid (fun p hp => by simp at hp), Lib.hid (RowQ.nil _ _), Lib.hid (Below.refl _ _)⟩
  case round =>
    obtain ⟨k, q, hk, rfl, hqk, hq24, HG, HQ, HB⟩ := hrel
    by_cases hlt : k < x.length
    · by_cases h24 : k < 24
      · obtain ⟨lb, lo, rfl, cs, hkk, hcs⟩ := (hA.later HB.out).get k hlt
        obtain ⟨rfl, _, _, _, _, wf3, wf4⟩ := kChr_cells hkk
        have hp := pickN_lt x[k].flags 3 (by decide)
        have hpc := fun W => picked_calls x[k].flags 3 W wf3 (by decide) (by decide)
        have c3 := hcs 3 _ rfl
        have c4 := hcs 4 _ rfl
        simp only [show kChr.sz = 6 from rfl, ← Nat.add_assoc] at c3 c4
        have Hpc := Lib.hid hpc
        have hk0 : (0 : Int) ≤ (k : Int) := by omega
        have hkn : (k : Int) < (x.length : Int) := by omega
        have hk24 : (k : Int) < 24 := by omega
        clear hpc hcs hkk
        go_wp2_with fail
        refine (Hpc.out _).mono ?_
        rintro e w1 ⟨rfl, rfl⟩
        generalize pickN x[k].flags 3 = pf at *
        generalize x[k] = z at *
        have hw1 : IntKind.i64.wrap ((x.length : Int) - (k : Int)) = ((x.length - k : Nat) : Int) := by rw [IntKind.wrap_i64]; omega
        go_upto_region 5 with fail
        obtain ⟨n, hn⟩ : ∃ n, n = min (1 + pf) (x.length - k) := ⟨_, rfl⟩
        have hnn : min (1 + (pf : Int)) ((x.length - k : Nat) : Int) = (n : Int) := by omega
        rw [hnn]
        have hn1 : 1 ≤ n ∧ k + n ≤ x.length := by omega
        have hd := bdr wr
        have hyl : ((x.drop k).take n).length = n := by rw [List.length_take, List.length_drop]; omega
        have hrow : ∀ W, Below wr.drew.heap.size wr.drew W → kChr.Row W (some ⟨lb, lo + k * 6, none⟩) ((x.drop k).take n) := fun W hW => (((hA.later HB.out).later hd).later hW).part k n _ (fun b off e _ => by
          obtain ⟨rfl, rfl, _⟩ := Addr.mk.inj (Option.some.inj e)
          rfl)
        have hof := fun W (hW : Below wr.drew.heap.size wr.drew W) => batchOf_calls ((x.drop k).take n) (some ⟨lb, lo + k * 6, none⟩) (c - k) z.dst W (by omega) (hrow W hW) wf4
        rw [hyl] at hof
        have hgd := batE_good ((x.drop k).take n) z.dst
        unfold BatOf at hof
        generalize batE ((x.drop k).take n) = E at *
        generalize hU : (pickN z.dst 3 : Int) = U at *
        have hmk := fun (W : World) (hW : Below wr.drew.heap.size wr.drew W) => And.intro (cell_later hW (cell_later hd c4)) hW
        have Hmk := Lib.hid hmk
        have Hof := Lib.hid hof
        have Hgd := Lib.hid hgd
        have hk1 : (k : Int) ≤ (k : Int) + (n : Int) := by omega
        have hk2 : (k : Int) + (n : Int) ≤ (c : Int) := by omega
        have hck : c ≠ k := by omega
        have hkw : IntKind.i64.wrap ((k : Int) + (n : Int)) = (k : Int) + (n : Int) := by rw [IntKind.wrap_i64]; omega
        have htn : ((k : Int) + (n : Int)).toNat - k = n := by omega
        have hKK := Hmk.out wr.drew (Below.refl _ _)
        clear hmk hof hgd hd hrow hyl hn hnn c3 c4 hw1 hp Hpc hA hU
        go_wp2_with fail
        go_region_held3 (fun W => W.cell? ⟨lb, lo + k * 6 + 4, none⟩ = some (.int .i64 z.dst) ∧ Below wr.drew.heap.size wr.drew W) (first | exact hKK | exact Hmk.out _ (bal (And.right (by first | assumption | exact hS)) _) | (refine Hmk.out _ (Below.setCell (Below.setCell (And.right (by first | assumption | exact hS)) ?_ _) ?_ _) <;> exact Nat.le_refl _))
          (first | (go_at_call 11; (with_reducible refine (Hof.out _ ?_).mono ?_); exact And.right (by first | assumption | exact hS); rintro e w9 ⟨v9, rfl, ho9, hb9⟩; obtain ⟨A9, c9, rfl⟩ := own_sliceE ho9; have hKK := Hmk.out w9 (btr (And.right (by first | assumption | exact hS)) hb9); try (have hB9 : Bk w9 wr.heap.size [.int .i64 0, .slice none 0 0] 25 := (Bk.new wr.drew [.int .i64 0, .slice none 0 0] 25).later hb9; have y0 := hB9.cell 0 _ rfl; have y1 := hB9.cell 1 _ rfl; have f0 := hB9.frozen 0; have f1 := hB9.frozen 1)))
        all_goals (
          first
            | (have hW := of_set (u := U) (k1 hKK) hB9 (row_base (base2 := wr.drew.heap.size) (by simp) ho9) (Nat.le_refl _)
               clear hKK hb9 Hmk Hof ho9
               generalize (w9.setCell ⟨wr.heap.size, 0, none⟩ (.int .i64 U)).setCell ⟨wr.heap.size, 1, none⟩ (.slice A9 E.length c9) = W at *)
            | (have hW := of_new (u := U) (k1 hKK) ho9
               clear hKK hb9 Hmk Hof ho9
               generalize w9.alloc (.cells #[.int .i64 U, .slice A9 E.length c9] 25) = W at *))
        all_goals (
          obtain ⟨hB6, hbl, hqq, hro⟩ := hW
          have hbw := btr (bdr wr) hbl
          have y0 := hB6.cell 0 _ rfl
          have y1 := hB6.cell 1 _ rfl
          have hbL : Below W.heap.size W (W.alloc (.cells #[.int .i64 U, .slice A9 E.length c9] 25)) := (Below.refl _ W).alloc (Nat.le_refl _) _
          have hnw := new_cells W [.int .i64 U, .slice A9 E.length c9] 25
          have hws := HB.out.size
          have hwd : wr.drew.heap.size = wr.heap.size := rfl
          have hQ9 := HQ.out.later (btr hbw hbL)
          have hrL := row_base (base2 := w.heap.size) (by omega) (row_later hbL hro)
          have hbB := HB.out.trans ((btr hbw hbL).mono hws)
          have hfin : ∀ (v' : Value) (w10 : World), w10.ownsRow w.heap.size 25 2 v' (q.length + 1) (q.flatMap batCells ++ [.int .i64 U, .slice A9 E.length c9]) → (W.alloc (.cells #[.int .i64 U, .slice A9 E.length c9] 25)).grownBy w10 u3.ownBlock →
              RowQ w10 w.heap.size v' (q ++ [(⟨U, E⟩, .slice A9 E.length c9)]) ∧ Below w.heap.size w w10 := fun v' w10 hown hgrow =>
            ⟨RowQ.snoc (b := ⟨U, E⟩) hQ9 hrL hgrow hown, hbB.grown hgrow hbB.size (fun k e => own_base' hQ9.1 k e)⟩
          have Hfin := Lib.hid hfin
          have hq9 := hQ9.1
          have hbs := hbL.size
          have hls := hbl.size
          have hsW : w.heap.size ≤ (W.alloc (.cells #[.int .i64 U, .slice A9 E.length c9] 25)).heap.size := by omega
          have HsW := Lib.hid hsW
          clear hfin hbB hrL hQ9 hro hbl hB6 hbL hbs hls hwd hsW hbw
          go_wp2_with (at_builtin; refine wpList_append_own_at _ rfl _ _ 39 rfl w.heap.size 25 i0 (.agg #[.int .i64 0, .slice none 0 0]) 2 32 Tryd.underlying39 hi hz0 hz1 hz2 rfl (by decide) u3 q.length (q.flatMap batCells) rfl hq9 ⟨W.heap.size, 0, none⟩ 1 1 [.int .i64 U, .slice A9 E.length c9] rfl rfl hnw (by simp [Value.oneCell']) (by unfold maxLen; omega) (by omega) HsW.out ?_; intro v' w10 hown' hgrow _ hat; obtain ⟨hQ10, hb10⟩ := Hfin.out v' w10 hown' hgrow; have HQ10 := Lib.hid hQ10; have Hb10 := Lib.hid hb10; obtain ⟨A10, c10, rfl⟩ := own_sliceE hown'; clear hown' hgrow hat hQ10 hb10)
          go_roundw
          case rel => exact ⟨k + n, _, by omega, by go_num, by rw [List.length_append, List.length_singleton]; omega, by rw [List.length_append, List.length_singleton]; omega, Lib.hid (fun p hp => by
            rcases List.mem_append.1 hp with hp | hp
            · exact HG.out p hp
            · simp only [List.mem_singleton] at hp
              subst hp
              exact Hgd.out), HQ10, Hb10⟩
          case measure => simp [intOf]; omega)
      · have hk24 : ¬ (k : Int) < 24 := by omega
        have hkn : (k : Int) < (x.length : Int) := by omega
        obtain ⟨Ak, ck, rfl⟩ := HQ.out.len
        clear hA
        go_wp2_with fail
        go_ret
        exact ⟨q.map Prod.fst, Ak, ck, by rw [List.length_map]; rfl, by rw [List.length_map]; exact hq24, fun b hb => by
          obtain ⟨p, hp, rfl⟩ := List.mem_map.1 hb
          exact HG.out p hp, ⟨q, rfl, by rw [List.length_map]; exact HQ.out⟩, HB.out⟩
    · obtain rfl : k = x.length := by omega
      obtain ⟨Ak, ck, rfl⟩ := HQ.out.len
      clear hA
      go_wp2_with fail
      go_ret
      exact ⟨q.map Prod.fst, Ak, ck, by rw [List.length_map]; rfl, by rw [List.length_map]; exact hq24, fun b hb => by
        obtain ⟨p, hp, rfl⟩ := List.mem_map.1 hb
        exact HG.out p hp, ⟨q, rfl, by rw [List.length_map]; exact HQ.out⟩, HB.out⟩
end Go.Proofs.YtpncahklapfoaaaDoor
