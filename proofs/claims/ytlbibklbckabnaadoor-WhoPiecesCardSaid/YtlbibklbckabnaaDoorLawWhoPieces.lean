/- Parts that there are not are refused, and so are addresses that may not be: for every person and every whole number. -/
import Derived.Test.YtlbibklbckabnaaDoorKeep
import Derived.Deep.LoopGhost
namespace Go.Proofs.YtlbibklbckabnaaDoor
open Go.RowKit

/-- An address in a box, and the cell of MaxLen. -/
structure KeepP (W : World) (b : Nat) (l d : ByteArray) (m : Int) : Prop where
  k0 : W.cell? ⟨b, 0, none⟩ = some (.string l)
  k1 : W.cell? ⟨b, 1, none⟩ = some (.string d)
  km : W.cell? ⟨0, 0, none⟩ = some (.int .i64 m)
theorem KeepP.later {W W' : World} {b : Nat} {l d : ByteArray} {m : Int} (hb : Below W.heap.size W W') (h : KeepP W b l d m) : KeepP W' b l d m :=
  ⟨cell_later hb h.k0, cell_later hb h.k1, cell_later hb h.km⟩

theorem heap_setCell_at {w : World} {b : Nat} {cs : Array Value} {t : TypeId} {f : Nat × Nat} (h : w.heap[b]? = some (.cells cs t f)) (j : Nat) (v : Value) :
    (w.setCell ⟨b, j, none⟩ v).heap[b]? = some (.cells (cs.setIfInBounds j v) t f) := by
  obtain ⟨hlt, hk⟩ := Array.getElem?_eq_some_iff.1 h
  show (w.heap.modify b _)[b]? = _
  rw [Array.getElem?_eq_getElem (by rw [Array.size_modify]; exact hlt), Array.getElem_modify_self, hk]
  rfl

set_option maxRecDepth 100000 in
set_option maxHeartbeats 4000000 in
theorem whoPieces_walk (l d x : ByteArray) (kind m : Int) (w : World) (hl : l.size ≤ 9223372036854775807) (hd : d.size ≤ 9223372036854775807) (hk : (Lit.int .i64 kind).wf = true) (hm : w.cell? ⟨0, 0, none⟩ = some (.int .i64 m)) :
    Calls Tryd.prog 3 #[.agg #[.string l, .string d, .string x], .int .i64 kind] w fun e w' => e = .returned (.bool true) ∧ Below w.heap.size w w' := by
  have hp := pickN_lt kind 9 (by omega)
  have hb0 : Below w.heap.size w (w.alloc (.cells #[.string l, .string d, .string x] 23)) := (Below.refl _ w).alloc (Nat.le_refl _) _
  have hw0 : 0 < w.heap.size := by
    obtain ⟨o, ho, _⟩ := cells_of_cell hm
    exact (Array.getElem?_eq_some_iff.1 ho).1
  have Hm := Lib.hid (cell_later hb0 hm)
  clear hm
  go_enter Tryd.func3, Tryd.ntmps3
  go_wp2_with fail
  refine (address_calls l d x hl hd _).mono ?_
  rintro e w1 ⟨rfl, hb1⟩
  have hb2 := hb0.trans (hb1.mono hb0.size)
  have hm1 := cell_later hb1 Hm.out
  clear Hm hb0 hb1
  obtain ⟨A0, hA⟩ : ∃ A0, adrOf l d = A0 := ⟨_, rfl⟩
  have hc := adrOf_check l d
  have hz := adrOf_size l d
  have hq1 := adrOf_loc l d
  have hq2 := adrOf_dom l d
  rw [hA] at hc hz hq1 hq2 ⊢
  have HA := Lib.hid hA
  have Hq1 := Lib.hid hq1
  have Hq2 := Lib.hid hq2
  clear hA hq1 hq2
  have hpt : (partA (4 + (pickN kind 9 : Int)) A0).2 = 2 := by
    unfold partA; rw [if_neg (by rw [hc]; simp), if_neg (by omega), if_neg (by omega), if_neg (by omega)]
  have hne : ∀ n, n ≤ 100 → A0.loc.size + n ≤ 108 := fun n hn => by omega
  dsimp only [adrVal]
  go_wp2_with fail
  have K1 : KeepP ((w1.alloc (.cells #[.string A0.loc, .string A0.dom] 25)).drew) w1.heap.size A0.loc A0.dom m := by
    refine ⟨?_, ?_, cell_later ((Below.refl _ w1).alloc (Nat.le_refl _) _).drew hm1⟩
    · show (w1.alloc _).cell? _ = _
      rw [World.cell?_alloc_at _ _ _ _ rfl]; rfl
    · show (w1.alloc _).cell? _ = _
      rw [World.cell?_alloc_at _ _ _ _ rfl]; rfl
  have p1 := part_calls (4 + (pickN kind 9 : Int)) A0 m _ (by omega) (by omega) K1.km
  rw [hpt] at p1
  generalize (partA (4 + (pickN kind 9 : Int)) A0).1 = s1 at p1
  have P1 := Lib.hid p1
  have HK1 := Lib.hid K1
  have Hb3 := Lib.hid (hb2.alloc hb2.size (.cells #[.string A0.loc, .string A0.dom] 25)).drew
  clear p1 K1 hpt hm1 hb2
  have hw4 : IntKind.i64.wrap (4 + (pickN kind 9 : Int)) = 4 + (pickN kind 9 : Int) := IntWalk.i64_in _ (by omega)
  go_region_with (first
    | (go_at_call 17; refine (picked_calls kind 9 _ hk (by omega) (by omega)).mono ?_; rintro e w' ⟨rfl, rfl⟩)
    | (go_at_call 16; (with_reducible refine P1.out.mono ?_); rintro e w2 ⟨rfl, hb4⟩; have HK2 := Lib.hid (HK1.out.later hb4); have Hb5 := Lib.hid (Hb3.out.trans (hb4.mono Hb3.out.size)); clear hb4))
  all_goals
    obtain ⟨k0, k1, km⟩ := HK2.out
    clear HK1 Hb3 P1
    have hz5 : A0.loc.size ≤ 8 := hz.2.1
    have hz6 : 1 ≤ A0.loc.size := hz.1
    have hz7 : A0.dom.size ≤ 12 := hz.2.2.2
    have p2 : partA 2 ⟨A0.loc, mkS []⟩ = (mkS [], 3) := by
      have : checkA ⟨A0.loc, mkS []⟩ = 3 := by unfold checkA; rw [if_neg (fun h => absurd (show dotted [] = true from h.2) (by decide))]
      unfold partA; rw [this, if_pos (by decide)]
    have q2 := fun W h => part_calls 2 ⟨A0.loc, mkS []⟩ m W (by show A0.loc.size ≤ _; omega) (by rw [mkS_size]; decide) h
    rw [p2] at q2
    have Q2 := Lib.hid q2
    clear p2 q2
    have hB2 := Hb5.out.size
    have Hb6 := Lib.hid (Hb5.out.alloc hB2 (.cells #[.string A0.loc, .string (mkS [])] 25))
    have hkm := cell_later ((Below.refl _ w2).alloc (Nat.le_refl _) (.cells #[.string A0.loc, .string (mkS [])] 25)) HK2.out.km
    have HK3 := Lib.hid (HK2.out.later ((Below.refl _ w2).alloc (Nat.le_refl _) (.cells #[.string A0.loc, .string (mkS [])] 25)))
    have Hkm := Lib.hid hkm
    clear hkm HK2 km Hb5
    go_wp2_with fail
    refine (Q2.out _ Hkm.out).mono ?_
    rintro e w3 ⟨rfl, hb7⟩
    obtain ⟨k0, k1, km⟩ := HK3.out.later hb7
    have hb8 := Hb6.out.trans (hb7.mono Hb6.out.size)
    clear HK3 Hb6 hb7 Hkm Q2
    have Hb8 := Lib.hid (hb8.alloc hb8.size (.cells #[.string A0.loc, .string A0.dom] 25))
    have HM := Lib.hid (cell_later ((Below.refl _ w3).alloc (Nat.le_refl _) (.cells #[.string A0.loc, .string A0.dom] 25)) km)
    have hnew := World.alloc_heap_new w3 (.cells #[.string A0.loc, .string A0.dom] 25)
    have hs3 : w.heap.size ≤ w3.heap.size := hb8.size
    have Hnew := Lib.hid hnew
    clear hb8 km hnew
    go_wp2_with fail
    go_loopg [] (100 - A0.loc.size) (fun kq wr => ∃ lc : ByteArray, wr.heap[w3.heap.size]? = some (.cells #[.string lc, .string A0.dom] 25 (0, 0)) ∧ lc.size + kq = 100 ∧ 1 ≤ lc.size ∧ Hid ((bs lc).all atomB = true) ∧ Below w.heap.size w wr ∧ wr.cell? ⟨0, 0, none⟩ = some (.int .i64 m) ∧ w3.heap.size < wr.heap.size)
    case atStart => exact ⟨A0.loc, Hnew.out, by omega, hz6, Lib.hid (by rw [Hq1.out]; exact wordL_atom _), Hb8.out, HM.out, by simp⟩
    case round =>
      obtain ⟨lc, hbox, hsz, hs1, hat, hbr, hmr, hlt3⟩ := hrel
      have hc0 : wr.cell? ⟨w3.heap.size, 0, none⟩ = some (.string lc) := by simp [World.cell?, hbox]
      have hc1 : wr.cell? ⟨w3.heap.size, 1, none⟩ = some (.string A0.dom) := by simp [World.cell?, hbox]
      have hf0 : wr.frozen? ⟨w3.heap.size, 0, none⟩ = false := by simp [World.frozen?, hbox]
      have Hbox := Lib.hid hbox
      have Hsz := Lib.hid hsz
      have hle : lc.size ≤ 100 := by omega
      clear hbox hsz
      by_cases hlt : lc.size < 100
      · have hsz1 : lc.size + (mkS [120]).size ≤ 101 := by rw [mkS_size]; simp; omega
        have hn0 : (lc ++ mkS [120]).size = lc.size + 1 := by rw [append_mkS, mkS_size, List.length_append]; rfl
        have hn1 : (bs (lc ++ mkS [120])).all atomB = true := by
          rw [bs_append, List.all_append, hat.out]; rfl
        have Hn0 := Lib.hid hn0
        have Hn1 := Lib.hid hn1
        clear hn0 hn1
        go_wp2
        go_roundg (gk - 1)
        case measure => have := Hsz.out; omega
        case rel =>
          refine ⟨lc ++ mkS [120], ?_, by have := Hsz.out; have := Hn0.out; omega, by have := Hn0.out; omega, Hn1, hbr.setCell (p := ⟨w3.heap.size, 0, none⟩) hs3 _, ?_, by simpa using hlt3⟩
          · exact heap_setCell_at Hbox.out 0 _
          · rw [World.cell?_setCell_other _ _ _ _ (by intro h; injection h with h1 h2; omega)]
            exact hmr
      · have hchk : checkA ⟨lc, A0.dom⟩ = 1 := by
          have h1 : dotted (bs lc) = true := dotted_plain hat.out (by intro h; have : (bs lc).length = 0 := by rw [h]; rfl
                                                                      rw [bs_len] at this; omega)
          have h2 : dotted (bs A0.dom) = true := by rw [Hq2.out]; exact dotted_org _
          unfold checkA
          rw [if_pos ⟨h1, h2⟩, if_pos (by show 100 < lc.size + 1 + A0.dom.size; omega)]
        have c1 := check_calls ⟨lc, A0.dom⟩ m wr (by show lc.size ≤ _; omega) (by show A0.dom.size ≤ _; omega) hmr
        rw [hchk] at c1
        have C1 := Lib.hid c1
        clear hchk c1
        go_wp2_with fail
        refine C1.out.mono ?_
        rintro e w5 ⟨rfl, hb9⟩
        go_wp2
        go_ret
        exact ⟨rfl, hbr.trans (hb9.mono hbr.size)⟩
end Go.Proofs.YtlbibklbckabnaaDoor
