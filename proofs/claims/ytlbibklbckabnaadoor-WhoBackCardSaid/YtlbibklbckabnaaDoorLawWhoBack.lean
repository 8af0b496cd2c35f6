/- An address is a list of one; its parts are what it is put together of: for every person. -/
import Derived.Test.YtlbibklbckabnaaDoorWhoLaw
import Derived.Deep.RegionHeld3
namespace Go.Proofs.YtlbibklbckabnaaDoor
open Go.RowKit

theorem check_keep (al ad : ByteArray) (b g : Nat) (m : Int) (w0 W : World) (hal : al.size ≤ 100000) (had : ad.size ≤ 100000) (hc : checkA ⟨al, ad⟩ = 0)
    (hS : W.cell? ⟨b, 0, none⟩ = some (.string al) ∧ W.cell? ⟨b, 1, none⟩ = some (.string ad) ∧ W.cell? ⟨g, 0, none⟩ = some (.string al) ∧ W.cell? ⟨g, 1, none⟩ = some (.string ad) ∧ W.cell? ⟨0, 0, none⟩ = some (.int .i64 m) ∧ Below w0.heap.size w0 W) :
    Calls Tryd.prog 18 #[.agg #[.string al, .string ad]] W fun e w' => e = .returned (.int .i64 0) ∧ (w'.cell? ⟨b, 0, none⟩ = some (.string al) ∧ w'.cell? ⟨b, 1, none⟩ = some (.string ad) ∧ w'.cell? ⟨g, 0, none⟩ = some (.string al) ∧ w'.cell? ⟨g, 1, none⟩ = some (.string ad) ∧ w'.cell? ⟨0, 0, none⟩ = some (.int .i64 m) ∧ Below w0.heap.size w0 w') := by
  obtain ⟨h0, h1, h2, h3, h4, h5⟩ := hS
  refine (check_calls ⟨al, ad⟩ m W hal had h4).mono fun e w' ⟨he, hb⟩ => ?_
  rw [hc] at he
  exact ⟨he, cell_later hb h0, cell_later hb h1, cell_later hb h2, cell_later hb h3, cell_later hb h4, h5.trans (hb.mono h5.size)⟩
set_option maxRecDepth 100000 in
set_option maxHeartbeats 4000000 in
theorem whoBack_walk (l d x : ByteArray) (m : Int) (w : World) (hl : l.size ≤ 9223372036854775807) (hd : d.size ≤ 9223372036854775807) (hm : w.cell? ⟨0, 0, none⟩ = some (.int .i64 m)) :
    Calls Tryd.prog 5 #[.agg #[.string l, .string d, .string x]] w fun e w' => e = .returned (.bool true) ∧ Below w.heap.size w w' := by
  go_enter Tryd.func5, Tryd.ntmps5
  go_wp2_with fail
  have hb0 : Below w.heap.size w (w.alloc (.cells #[.string l, .string d, .string x] 23)) := (Below.refl _ w).alloc (Nat.le_refl _) _
  have hm0 := cell_later hb0 hm
  have hs0 : w.heap.size ≤ (w.alloc (.cells #[.string l, .string d, .string x] 23)).heap.size := by simp
  generalize w.alloc (.cells #[.string l, .string d, .string x] 23) = w1 at *
  refine (address_calls l d x hl hd _).mono ?_
  rintro e w2 ⟨rfl, hb1⟩
  have hb2 := hb0.trans (hb1.mono hs0)
  have hm2 := cell_later hb1 hm0
  have hs2 := hb1.size
  clear hb0 hm0 hb1 hm
  have hc := adrOf_check l d
  have hz := adrOf_size l d
  have hl1 := listL_one
  obtain ⟨A0, hA⟩ : ∃ A0, adrOf l d = A0 := ⟨_, rfl⟩
  rw [hA] at hc hz ⊢
  have HA := Lib.hid hA
  clear hA hl1
  obtain ⟨al, ad⟩ := A0
  dsimp only [adrVal]
  go_wp2_with fail
  have ha3 := AB.new w2 al ad
  have hb3 : Below w2.heap.size w2 (w2.alloc (.cells #[.string al, .string ad] 25)) := (Below.refl _ w2).alloc (Nat.le_refl _) _
  have hm3 := cell_later hb3 hm2
  have hbw3 := hb2.trans (hb3.mono (by omega))
  have hs3 : w2.heap.size < (w2.alloc (.cells #[.string al, .string ad] 25)).heap.size := by simp
  generalize w2.alloc (.cells #[.string al, .string ad] 25) = w3 at *
  clear hb2 hb3 hm2
  have hal : al.size ≤ 100000 := by omega
  have had : ad.size ≤ 100000 := by omega
  refine (part_calls 1 ⟨al, ad⟩ m w3 hal had hm3).mono ?_
  rintro e w4 ⟨rfl, hb4⟩
  have hp1 : partA 1 ⟨al, ad⟩ = (al ++ mkS [64] ++ ad, 0) := by unfold partA; rw [if_neg (by rw [hc]; simp), if_pos rfl]
  rw [hp1]
  have ha4 : AB w4 w2.heap.size al ad := (hb4.block _ ha3.lt).trans ha3
  have hm4 := cell_later hb4 hm3
  have hbw4 := hbw3.trans (hb4.mono (by omega))
  have hs4 := hb4.size
  clear ha3 hb4 hm3 hbw3 hp1
  obtain ⟨p, hp⟩ : ∃ p, al ++ mkS [64] ++ ad = p := ⟨_, rfl⟩
  have hR : listL (p.size + 1) (p.size + 1) (bs p) = some [⟨al, ad⟩] := by
    have h := listL_one p.size p.size l d
    rw [HA.out] at h
    rw [← hp] at h ⊢
    rw [bs_append, bs_append, List.append_assoc]
    exact h
  have hps : p.size ≤ 2000 := by
    have h1 : (bs p).length = p.size := rfl
    rw [← hp, bs_append, bs_append, List.length_append, List.length_append] at h1
    have h2 : (bs (mkS [64])).length = 1 := rfl
    have h3 : (bs al).length = al.size := rfl
    have h4 : (bs ad).length = ad.size := rfl
    have h5 : (al ++ mkS [64] ++ ad).size = p.size := by rw [hp]
    omega
  rw [hp]
  go_wp2_with fail
  refine (list_calls p m w4 hps hm4 _ hR).mono ?_
  rintro e w5 ⟨v, err, rfl, hb5, hok⟩
  change (if 20 < 1 then _ else err = 0 ∧ _) at hok
  rw [if_neg (by decide)] at hok
  obtain ⟨rfl, hrow⟩ := hok
  have ha5 : AB w5 w2.heap.size al ad := (hb5.block _ ha4.lt).trans ha4
  have hm5 := cell_later hb5 hm4
  have hbw5 := hbw4.trans (hb5.mono (by omega))
  have hs5 := hb5.size
  obtain ⟨g, c, rfl⟩ := own_pos hrow
  have hr0 : w5.cell? ⟨g, 0, none⟩ = some (.string al) := by
    have h := hrow.cells rfl 0 (.string al) rfl
    have hadd : (⟨g, 0, none⟩ : Addr).add 0 = ⟨g, 0, none⟩ := by unfold Addr.add; split <;> simp_all
    rw [hadd] at h; exact h
  have hr1 : w5.cell? ⟨g, 1, none⟩ = some (.string ad) := by
    have h := hrow.cells rfl 1 (.string ad) rfl
    have hadd : (⟨g, 0, none⟩ : Addr).add 1 = ⟨g, 1, none⟩ := by unfold Addr.add; split <;> simp_all
    rw [hadd] at h; exact h
  clear ha4 hm4 hbw4 hb5 hrow hR
  have b0 := ha5.c0
  have b1 := ha5.c1
  have Hp := Lib.hid hp
  clear hp
  go_wp2_with fail
  refine (part_calls 2 ⟨al, ad⟩ m w5 hal had hm5).mono ?_
  rintro e w6 ⟨rfl, hb6⟩
  rw [show partA 2 ⟨al, ad⟩ = (al, 0) by unfold partA; rw [if_neg (by rw [hc]; simp)]; rfl]
  have ha6 : AB w6 w2.heap.size al ad := (hb6.block _ ha5.lt).trans ha5
  have hm6 := cell_later hb6 hm5
  have hbw6 := hbw5.trans (hb6.mono (by omega))
  have hs6 := hb6.size
  have hr0 := cell_later hb6 hr0
  have hr1 := cell_later hb6 hr1
  clear hb6 ha5 hm5 hbw5 b0 b1
  have b0 := ha6.c0
  have b1 := ha6.c1
  go_wp2_with fail
  refine (part_calls 3 ⟨al, ad⟩ m w6 hal had hm6).mono ?_
  rintro e w7 ⟨rfl, hb7⟩
  rw [show partA 3 ⟨al, ad⟩ = (ad, 0) by unfold partA; rw [if_neg (by rw [hc]; simp)]; rfl]
  have ha7 : AB w7 w2.heap.size al ad := (hb7.block _ ha6.lt).trans ha6
  have hm7 := cell_later hb7 hm6
  have hbw7 := hbw6.trans (hb7.mono (by omega))
  have hs7 := hb7.size
  have hr0 := cell_later hb7 hr0
  have hr1 := cell_later hb7 hr1
  clear hb7 ha6 hm6 hbw6 b0 b1
  have b0 := ha7.c0
  have b1 := ha7.c1
  have Hc := Lib.hid hc
  go_wp2_with fail
  have hp2 : al ++ (⟨#[64]⟩ : ByteArray) ++ ad = p := Hp.out
  subst hp2
  have n1 : al.size + (⟨#[64]⟩ : ByteArray).size ≤ 200 := by show al.size + 1 ≤ 200; omega
  have n2 : (al ++ (⟨#[64]⟩ : ByteArray)).size + ad.size ≤ 200 := by
    have h1 : (al ++ (⟨#[64]⟩ : ByteArray)).size = al.size + 1 := by rw [ByteArray.size_append]; rfl
    omega
  have Hbw := Lib.hid hbw7
  have g1 : ¬ 9223372036854775807 < al.size + 1 := by omega
  have g2 : ¬ 9223372036854775807 < al.size + 1 + ad.size := by omega
  clear hc hbw7 Hp
  go_region_held3 (fun w' => w'.cell? ⟨w2.heap.size, 0, none⟩ = some (.string al) ∧ w'.cell? ⟨w2.heap.size, 1, none⟩ = some (.string ad) ∧ w'.cell? ⟨g, 0, none⟩ = some (.string al) ∧ w'.cell? ⟨g, 1, none⟩ = some (.string ad) ∧ w'.cell? ⟨0, 0, none⟩ = some (.int .i64 m) ∧ Below w.heap.size w w') (first | exact hKK | exact ⟨b0, b1, hr0, hr1, hm7, Hbw.out.drew⟩ | exact ⟨b0, b1, hr0, hr1, hm7, Hbw.out⟩)
    (first | (go_at_call 18; (with_reducible refine (check_keep al ad w2.heap.size g m w _ hal had Hc.out ?_).mono ?_); (first | assumption | exact hS); rintro e w9 ⟨rfl, hKK⟩))
  go_wp2
  go_ret
  exact ⟨rfl, hKK.2.2.2.2.2⟩
end Go.Proofs.YtlbibklbckabnaaDoor
