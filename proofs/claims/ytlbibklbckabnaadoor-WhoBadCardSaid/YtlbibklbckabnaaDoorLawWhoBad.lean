/- What is no address spoils a list: for every person and every number. -/
import Derived.Test.YtlbibklbckabnaaDoorWhoBadPlain
import Derived.Test.YtlbibklbckabnaaDoorPer
namespace Go.Proofs.YtlbibklbckabnaaDoor
open Go.RowKit

set_option maxRecDepth 100000 in
set_option maxHeartbeats 4000000 in
theorem whoBad_walk (l d x : ByteArray) (n m : Int) (w : World) (hl : l.size ≤ 9223372036854775807) (hd : d.size ≤ 9223372036854775807) (hn : (Lit.int .i64 n).wf = true) (hm : w.cell? ⟨0, 0, none⟩ = some (.int .i64 m)) :
    Calls Tryd.prog 7 #[.agg #[.string l, .string d, .string x], .int .i64 n] w fun e w' => e = .returned (.bool true) ∧ Below w.heap.size w w' := by
  go_enter Tryd.func7, Tryd.ntmps7
  go_wp2_with fail
  have hb0 : Below w.heap.size w (w.alloc (.cells #[.string l, .string d, .string x] 23)) := (Below.refl _ w).alloc (Nat.le_refl _) _
  have hm0 := cell_later hb0 hm
  have hs0 : w.heap.size ≤ (w.alloc (.cells #[.string l, .string d, .string x] 23)).heap.size := by simp
  generalize w.alloc (.cells #[.string l, .string d, .string x] 23) = w1 at *
  refine (address_calls l d x hl hd _).mono ?_
  rintro e w2 ⟨rfl, hb1⟩
  have hb2 := hb0.trans (hb1.mono hs0)
  have hm2 := cell_later hb1 hm0
  have hs2 := hb1.size
  clear hb0 hm0 hb1 hm
  have hc := adrOf_check l d
  have hz := adrOf_size l d
  have hl1 := listL_one
  obtain ⟨A0, hA⟩ : ∃ A0, adrOf l d = A0 := ⟨_, rfl⟩
  rw [hA] at hc hz ⊢
  have HA := Lib.hid hA
  clear hA hl1
  obtain ⟨al, ad⟩ := A0
  dsimp only [adrVal]
  go_wp2_with fail
  have hal : al.size ≤ 100000 := by omega
  have had : ad.size ≤ 100000 := by omega
  refine (part_calls 1 ⟨al, ad⟩ m w2 hal had hm2).mono ?_
  rintro e w4 ⟨rfl, hb4⟩
  have hp1 : partA 1 ⟨al, ad⟩ = (al ++ mkS [64] ++ ad, 0) := by unfold partA; rw [if_neg (by rw [hc]; simp), if_pos rfl]
  rw [hp1]
  have hm4 := cell_later hb4 hm2
  have hbw4 := hb2.trans (hb4.mono (by omega))
  have hs4 := hb4.size
  clear hb4 hm2 hb2 hp1
  obtain ⟨p, hp⟩ : ∃ p, al ++ mkS [64] ++ ad = p := ⟨_, rfl⟩
  have hR : listL (p.size + 1) (p.size + 1) (bs p) = some [⟨al, ad⟩] := by
    have h := listL_one p.size p.size l d
    rw [HA.out] at h
    rw [← hp] at h ⊢
    rw [bs_append, bs_append, List.append_assoc]
    exact h
  have hps : p.size ≤ 22 := by
    have h1 : (bs p).length = p.size := rfl
    rw [← hp, bs_append, bs_append, List.length_append, List.length_append] at h1
    have h2 : (bs (mkS [64])).length = 1 := rfl
    have h3 : (bs al).length = al.size := rfl
    have h4 : (bs ad).length = ad.size := rfl
    have h5 : (al ++ mkS [64] ++ ad).size = p.size := by rw [hp]
    omega
  have hbp : bs p = bs (adrOf l d).loc ++ 64 :: bs (adrOf l d).dom := by
    rw [HA.out, ← hp, bs_append, bs_append, List.append_assoc]; rfl
  have hk := pickN_lt n 17 (by omega)
  have hb := bad_list l d p hbp (badsL.getD (pickN n 17) []) (bads_get _ (by omega))
  have HR := Lib.hid hR
  have HB := Lib.hid hb
  clear hR hb hbp
  rw [hp]
  clear hp
  go_wp2_with fail
  have hq := new_cells w4 (badsL.map fun b => Value.string (mkS b)) 9 (pickN n 17) _ (bads_cell _ (by omega))
  have hadd : (⟨w4.heap.size, 0, none⟩ : Addr).add (pickN n 17) = ⟨w4.heap.size, pickN n 17, none⟩ := by unfold Addr.add; split <;> simp_all
  rw [hadd] at hq
  change (w4.alloc (.cells #[.string ⟨#[]⟩, .string ⟨#[97]⟩, .string ⟨#[64, 98]⟩, .string ⟨#[97, 64]⟩, .string ⟨#[97, 64, 98, 64, 99]⟩, .string ⟨#[60, 97, 64, 98]⟩, .string ⟨#[97, 64, 98, 62]⟩, .string ⟨#[97, 64, 98, 32, 99, 64, 100]⟩, .string ⟨#[97, 32, 98, 64, 99]⟩, .string ⟨#[60, 97, 32, 64, 98, 62]⟩, .string ⟨#[60, 62]⟩, .string ⟨#[97, 46, 46, 98, 64, 99]⟩, .string ⟨#[46, 97, 64, 98]⟩, .string ⟨#[97, 46, 64, 98]⟩, .string ⟨#[34, 120, 32, 60, 97, 64, 98, 62]⟩, .string ⟨#[34, 120, 34]⟩, .string ⟨#[97, 64, 98, 59]⟩] 9)).cell? _ = _ at hq
  have hb5 : Below w4.heap.size w4 (w4.alloc (.cells #[.string ⟨#[]⟩, .string ⟨#[97]⟩, .string ⟨#[64, 98]⟩, .string ⟨#[97, 64]⟩, .string ⟨#[97, 64, 98, 64, 99]⟩, .string ⟨#[60, 97, 64, 98]⟩, .string ⟨#[97, 64, 98, 62]⟩, .string ⟨#[97, 64, 98, 32, 99, 64, 100]⟩, .string ⟨#[97, 32, 98, 64, 99]⟩, .string ⟨#[60, 97, 32, 64, 98, 62]⟩, .string ⟨#[60, 62]⟩, .string ⟨#[97, 46, 46, 98, 64, 99]⟩, .string ⟨#[46, 97, 64, 98]⟩, .string ⟨#[97, 46, 64, 98]⟩, .string ⟨#[34, 120, 32, 60, 97, 64, 98, 62]⟩, .string ⟨#[34, 120, 34]⟩, .string ⟨#[97, 64, 98, 59]⟩] 9)) := (Below.refl _ w4).alloc (Nat.le_refl _) _
  have hm5 := cell_later hb5 hm4
  have hbw5 := hbw4.trans (hb5.mono (by omega))
  have hs5 := hb5.size
  clear hb5 hm4 hbw4 hadd
  generalize w4.alloc (.cells #[.string ⟨#[]⟩, .string ⟨#[97]⟩, .string ⟨#[64, 98]⟩, .string ⟨#[97, 64]⟩, .string ⟨#[97, 64, 98, 64, 99]⟩, .string ⟨#[60, 97, 64, 98]⟩, .string ⟨#[97, 64, 98, 62]⟩, .string ⟨#[97, 64, 98, 32, 99, 64, 100]⟩, .string ⟨#[97, 32, 98, 64, 99]⟩, .string ⟨#[60, 97, 32, 64, 98, 62]⟩, .string ⟨#[60, 62]⟩, .string ⟨#[97, 46, 46, 98, 64, 99]⟩, .string ⟨#[46, 97, 64, 98]⟩, .string ⟨#[97, 46, 64, 98]⟩, .string ⟨#[34, 120, 32, 60, 97, 64, 98, 62]⟩, .string ⟨#[34, 120, 34]⟩, .string ⟨#[97, 64, 98, 59]⟩] 9) = w5 at *
  refine (picked_calls n 17 w5 hn (by decide) (by decide)).mono ?_
  rintro e w' ⟨rfl, rfl⟩
  generalize pickN n 17 = k at *
  generalize mkS (badsL.getD k []) = b at *
  have h0k : (0 : Int) ≤ (k : Int) := by omega
  have hb1 : b.size + 1 + p.size ≤ 40 := by
    have h := HB.out.1
    rw [ByteArray.size_append, ByteArray.size_append] at h
    exact h
  have n1 : b.size + (⟨#[44]⟩ : ByteArray).size ≤ 200 := by show b.size + 1 ≤ 200; omega
  have n2 : (b ++ (⟨#[44]⟩ : ByteArray)).size + p.size ≤ 200 := by
    have h1 : (b ++ (⟨#[44]⟩ : ByteArray)).size = b.size + 1 := by rw [ByteArray.size_append]; rfl
    omega
  have n3 : p.size + (⟨#[44]⟩ : ByteArray).size ≤ 200 := by show p.size + 1 ≤ 200; omega
  have n4 : (p ++ (⟨#[44]⟩ : ByteArray)).size + b.size ≤ 200 := by
    have h1 : (p ++ (⟨#[44]⟩ : ByteArray)).size = p.size + 1 := by rw [ByteArray.size_append]; rfl
    omega
  have hl1 := list_calls (b ++ mkS [44] ++ p) m w5 (by have := HB.out.1; omega) hm5 _ HB.out.2.2.1
  have HL1 := Lib.hid hl1
  clear hl1 hc hz HA
  go_wp2_with fail
  refine HL1.out.mono ?_
  rintro e w6 ⟨v6, err6, rfl, hb6, hv6, he6⟩
  subst he6 hv6
  have hm6 := cell_later hb6 hm5
  have hbw6 := hbw5.trans (hb6.mono (by omega))
  have hs6 := hb6.size
  have hl2 := list_calls (p ++ mkS [44] ++ b) m w6 (by have := HB.out.2.1; omega) hm6 _ HB.out.2.2.2
  have HL2 := Lib.hid hl2
  clear hl2 HL1 hb6 hm5 hbw5
  go_wp2_with fail
  refine HL2.out.mono ?_
  rintro e w7 ⟨v7, err7, rfl, hb7, hv7, he7⟩
  subst he7 hv7
  have hm7 := cell_later hb7 hm6
  have hbw7 := hbw6.trans (hb7.mono (by omega))
  have hs7 := hb7.size
  have hl3 := list_calls p m w7 (by omega) hm7 _ HR.out
  have HL3 := Lib.hid hl3
  clear hl3 HL2 hb7 hm6 hbw6
  go_wp2_with fail
  refine HL3.out.mono ?_
  rintro e w8 ⟨v8, err8, rfl, hb8, hok⟩
  change (if 20 < 1 then _ else err8 = 0 ∧ _) at hok
  rw [if_neg (by decide)] at hok
  obtain ⟨rfl, hrow⟩ := hok
  have hbw8 := hbw7.trans (hb8.mono (by omega))
  clear hb8 hm7 hbw7 hrow HL3
  go_wp2
  go_ret
  exact ⟨rfl, hbw8⟩
end Go.Proofs.YtlbibklbckabnaaDoor
