/- A line that is no field is told by its place: for every list of lines, every place, every such line. -/
import Derived.Test.YtlbibklbckabnaaDoorLetLaw
import Derived.Test.YtlbibklbckabnaaDoorParse
import Derived.Test.YtlbibklbckabnaaDoorPick
import Derived.Deep.QuietTactic
import Derived.BigQuiet
namespace Go.Proofs.YtlbibklbckabnaaDoor
open Go.RowKit
set_option linter.unusedVariables false

theorem below_drewN' {B : Nat} {x y : World} (h : Below B x y) (n : Nat) : Below B x (y.drewN n) := ⟨h.os, h.tape, h.output, h.size, h.block⟩
theorem fldRow_get {w : World} {base g n c q : Nat} {l : List Fld} {a : Fld} (h : w.ownsRow base 48 2 (.slice (some ⟨g, 0, none⟩) n c) n (fldCells l)) (hl : l.length = n) (hq : l[q]? = some a) :
    w.cell? ⟨g, q * 2, none⟩ = some (.string a.name) ∧ w.cell? ⟨g, q * 2 + 1, none⟩ = some (.string a.value) := by
  have hlt : q < l.length := (List.getElem?_eq_some_iff.1 hq).1
  obtain ⟨h1, h2⟩ := fldCells_get l q a hq
  exact ⟨(h.cellAt (q * 2) (by omega)).trans h1, (h.cellAt (q * 2 + 1) (by omega)).trans h2⟩
set_option maxRecDepth 100000 in
set_option maxHeartbeats 8000000 in
theorem letterPlace_walk (x : List Fld) (A : Option Addr) (c : Nat) (at' bad : Int) (m : Int) (w : World) (hx : x.length ≤ 9223372036854775807) (hA : kLin.Row w A x) (hat : (Lit.int .i64 at').wf = true) (hbad : (Lit.int .i64 bad).wf = true) (hm : w.cell? ⟨0, 0, none⟩ = some (.int .i64 m)) :
    Calls Tryd.prog 8 #[.slice A x.length c, .int .i64 at', .int .i64 bad] w fun e w' => e = .returned (.bool true) ∧ Below w.heap.size w w' := by
  go_enter Tryd.func8, Tryd.ntmps8
  go_wp2_with fail
  refine (message_calls x A c ⟨#[]⟩ w hx hA (by decide)).mono ?_
  rintro e w1 ⟨v, rfl, hrow, hb1⟩
  have hF := fieldsOf_ok x
  have hn := fieldsOf_len x
  obtain ⟨A2, c2, rfl⟩ := own_slice hrow
  generalize fieldsOf x = F at *
  obtain ⟨n, hFn⟩ : ∃ n, F.length = n := ⟨_, rfl⟩
  rw [hFn] at hn hrow ⊢
  have HF := Lib.hid hF
  have HFn := Lib.hid hFn
  have Row := Lib.hid hrow
  clear hF hFn hrow hA
  go_wp2_with fail
  obtain ⟨W0, hW0⟩ : ∃ W0 : World, W0 = ((w1.alloc (.cells #[.slice A2 n c2, .string (cutS ⟨#[]⟩ 200)] 45)).alloc (.cells #[.string ⟨#[110, 111, 99, 111, 108, 111, 110]⟩, .string ⟨#[58, 118]⟩, .string ⟨#[97, 32, 98, 58, 32, 99]⟩, .string ⟨#[127, 58, 32, 118]⟩, .string ⟨#[99, 97, 102, 233, 58, 32, 118]⟩] 9)) := ⟨_, rfl⟩
  have hs1 : (w1.alloc (.cells #[.slice A2 n c2, .string (cutS ⟨#[]⟩ 200)] 45)).heap.size = w1.heap.size + 1 := by simp
  have hbA : Below w1.heap.size w1 (w1.alloc (.cells #[.slice A2 n c2, .string (cutS ⟨#[]⟩ 200)] 45)) := (Below.refl _ w1).alloc (Nat.le_refl _) _
  have hbB : Below (w1.heap.size + 1) (w1.alloc (.cells #[.slice A2 n c2, .string (cutS ⟨#[]⟩ 200)] 45)) W0 := by rw [hW0, ← hs1]; exact (Below.refl _ _).alloc (Nat.le_refl _) _
  have hb0 : Below w1.heap.size w1 W0 := hbA.trans (hbB.mono (by omega))
  have k0 : W0.cell? ⟨w1.heap.size, 0, none⟩ = some (.slice A2 n c2) := by
    have h := World.alloc_heap_new w1 (.cells #[.slice A2 n c2, .string (cutS ⟨#[]⟩ 200)] 45)
    have h2 := (hbB.block w1.heap.size (by omega)).trans h
    simp [World.cell?, h2]
  have hlines : ∀ j, j < 5 → W0.cell? ⟨w1.heap.size + 1, j, none⟩ = some (.string (mkS (badLines.getD j []))) := by
    intro j hj
    have h := new_cells (w1.alloc (.cells #[.slice A2 n c2, .string (cutS ⟨#[]⟩ 200)] 45)) (badLines.map fun b => Value.string (mkS b)) 9 j _ (badLines_cell j hj)
    have hadd : (⟨(w1.alloc (.cells #[.slice A2 n c2, .string (cutS ⟨#[]⟩ 200)] 45)).heap.size, 0, none⟩ : Addr).add j = ⟨w1.heap.size + 1, j, none⟩ := by rw [hs1]; unfold Addr.add; split <;> simp_all
    rw [hadd] at h
    rw [hW0]
    exact h
  have hrow0 := ownsRow_laterE hb0 Row.out
  have hm0 := cell_later hb0 (cell_later hb1 hm)
  have hbw0 := hb1.trans (hb0.mono hb1.size)
  have hsz0 : w.heap.size ≤ W0.heap.size := hbw0.size
  rw [← hW0]
  clear hbA hbB hb0 hW0 hs1 Row hb1 hm
  have hk := pickN_lt at' ((n : Int) + 1) (by omega)
  refine (picked_calls at' ((n : Int) + 1) W0 hat (by omega) (by omega)).mono ?_
  rintro e w' ⟨rfl, rfl⟩
  generalize pickN at' ((n : Int) + 1) = k at *
  have hkn : k ≤ n := by omega
  have hkb := pickN_lt bad 5 (by omega)
  obtain ⟨hbl, hb8⟩ := badLines_get (pickN bad 5) (by omega)
  have hbc := hlines (pickN bad 5) (by omega)
  obtain ⟨kb, hkbe⟩ : ∃ kb, pickN bad 5 = kb := ⟨_, rfl⟩
  rw [hkbe] at hkb hbl hb8 hbc
  have Hkb := Lib.hid hkbe
  obtain ⟨b, hbe⟩ : ∃ b, badLines.getD kb [] = b := ⟨_, rfl⟩
  rw [hbe] at hbl hb8 hbc
  have hbz : (mkS b).size ≤ 8 := by rw [mkS_size]; exact hb8
  have HBl := Lib.hid hbl
  have hplace := place_law F k b HF.out (by rw [HFn.out]; exact hn) (by rw [HFn.out]; exact hkn) hbl hb8
  rw [HFn.out] at hplace
  have HPl := Lib.hid hplace
  have hslen : ∀ j, j ≤ n → (stext F k (b ++ [13, 10]) j).length ≤ 366 := fun j hj => by
    have h := stext_len F k (b ++ [13, 10]) HF.out (by simp; omega) j (by rw [HFn.out]; exact hj) (by omega)
    omega
  have HSl := Lib.hid hslen
  have Hbw0 := Lib.hid hbw0
  have Row0 := Lib.hid hrow0
  have hkb0 : (0 : Int) ≤ (kb : Int) := by omega
  clear hbl hplace hslen hbw0 hlines hkbe hbe hrow0
  go_wp2_with fail
  go_loopw [10, 11] (fun s i wr => ∃ (j : Nat) (S : ByteArray), j ≤ n ∧ i = .int .i64 j ∧ s = .string S ∧ Hid (bs S = stext F k (b ++ [13, 10]) j) ∧ Below W0.heap.size W0 wr) (fun _ i _ => n - (intOf i).toNat)
  case atStart => exact ⟨0, ⟨#[]⟩, Nat.zero_le _, rfl, rfl, Lib.hid rfl, Below.refl _ _⟩
  case round =>
    obtain ⟨j, S, hj, rfl, rfl, HS, hb⟩ := hrel
    have q0 := cell_later hb k0
    have qb := cell_later hb hbc
    have hSz : S.size ≤ 366 := by rw [← bs_len, HS.out]; exact HSl.out j hj
    have Hb := Lib.hid hb
    by_cases hlt : j < n
    · have hjF : j < F.length := by rw [HFn.out]; exact hlt
      have hget : F[j]? = some F[j] := List.getElem?_eq_getElem hjF
      have hgd : F.getD j fld0 = F[j] := by rw [List.getD_eq_getElem?_getD, hget]; rfl
      have hok := HF.out F[j] (List.getElem_mem hjF)
      have hz1 := hok.low
      have hz2 := hok.short
      obtain ⟨g, cc, hsl⟩ := own_ptr Row0.out (by omega)
      simp only [Value.slice.injEq] at hsl
      obtain ⟨rfl, -, rfl⟩ := hsl
      obtain ⟨r0, r1⟩ := fldRow_get Row0.out HFn.out hget
      have r0 := cell_later hb r0
      have r1 := cell_later hb r1
      have Hgd := Lib.hid hgd
      clear hget hgd hok hb
      generalize F[j] = z at *
      have hj0 : (0 : Int) ≤ (j : Int) := by omega
      have hjn : (j : Int) < (n : Int) := by omega
      by_cases hjk : j = k
      · have ejk : ((j : Int) == (k : Int)) = true := by rw [hjk]; simp
        have hnew : bs (S ++ (mkS b ++ ⟨#[13, 10]⟩) ++ (z.name ++ ⟨#[58]⟩ ++ z.value ++ ⟨#[13, 10]⟩)) = stext F k (b ++ [13, 10]) (j + 1) := by
          rw [stext, if_pos hjk, Hgd.out, bs_append, bs_append, bs_append, bs_append, bs_append, bs_append, HS.out, bs_mkS]
          show _ ++ (b ++ [13, 10]) ++ (bs z.name ++ [58] ++ bs z.value ++ [13, 10]) = _
          simp [lnL]
        have Hnew := Lib.hid hnew
        clear hnew hjk
        go_wp2_with fail
        refine (picked_calls bad 5 _ hbad (by decide) (by decide)).mono ?_
        rintro e w' ⟨rfl, rfl⟩
        rw [Hkb.out]
        go_wp2_with fail
        go_quiet (fail)
        go_wp2
        go_roundw
        case rel => exact ⟨j + 1, _, by omega, by go_num, rfl, Hnew, below_drewN' Hb.out _⟩
        case measure => simp [intOf]; omega
      · have ejk : ((j : Int) == (k : Int)) = false := by rw [beq_eq_false_iff_ne]; omega
        have hnew : bs (S ++ (z.name ++ ⟨#[58]⟩ ++ z.value ++ ⟨#[13, 10]⟩)) = stext F k (b ++ [13, 10]) (j + 1) := by
          rw [stext, if_neg hjk, Hgd.out, bs_append, bs_append, bs_append, bs_append, HS.out]
          show _ ++ (bs z.name ++ [58] ++ bs z.value ++ [13, 10]) = _
          simp [lnL]
        have Hnew := Lib.hid hnew
        clear hnew hjk
        go_wp2_with fail
        go_quiet (fail)
        go_wp2
        go_roundw
        case rel => exact ⟨j + 1, _, by omega, by go_num, rfl, Hnew, below_drewN' Hb.out _⟩
        case measure => simp [intOf]; omega
    · obtain rfl : j = n := by omega
      have hmr := cell_later hb hm0
      clear hb
      by_cases hjk : k = j
      · have ejk : ((k : Int) == (j : Int)) = true := by rw [hjk]; simp
        have hnew : bs (S ++ (mkS b ++ ⟨#[13, 10]⟩) ++ ⟨#[13, 10]⟩) = stext F k (b ++ [13, 10]) j ++ (if k = j then b ++ [13, 10] else []) ++ [13, 10] := by
          rw [if_pos hjk, bs_append, bs_append, bs_append, HS.out, bs_mkS]; rfl
        have Hnew := Lib.hid hnew
        have hT1 : (S ++ (mkS b ++ ⟨#[13, 10]⟩) ++ (⟨#[13, 10]⟩ : ByteArray)).size ≤ 400 := by rw [← bs_len, hnew]; exact HPl.out.1
        have hP := parse_calls (S ++ (mkS b ++ ⟨#[13, 10]⟩) ++ ⟨#[13, 10]⟩) m wr (by omega) hmr (.bad k 3) (by rw [hnew]; exact HPl.out.2.2 _ (by rw [← bs_len, hnew]; have := HPl.out.2.1; omega))
        have HP := Lib.hid hP
        clear hnew hP hjk hT1
        go_wp2_with fail
        refine (picked_calls bad 5 _ hbad (by decide) (by decide)).mono ?_
        rintro e w' ⟨rfl, rfl⟩
        rw [Hkb.out]
        go_wp2_with fail
        refine HP.out.mono ?_
        rintro e w5 ⟨hb5, he⟩
        dsimp only at he
        subst he
        have Hfin := Lib.hid (Hbw0.out.trans ((Hb.out.trans (hb5.mono Hb.out.size)).mono hsz0))
        clear HP hb5
        go_wp2
        go_ret
        exact ⟨rfl, Hfin.out.alloc (by have := Hfin.out.size; omega) _⟩
      · have ejk : ((k : Int) == (j : Int)) = false := by rw [beq_eq_false_iff_ne]; omega
        have hnew : bs (S ++ ⟨#[13, 10]⟩) = stext F k (b ++ [13, 10]) j ++ (if k = j then b ++ [13, 10] else []) ++ [13, 10] := by
          rw [if_neg hjk, bs_append, HS.out, List.append_nil]; rfl
        have Hnew := Lib.hid hnew
        have hT1 : (S ++ (⟨#[13, 10]⟩ : ByteArray)).size ≤ 400 := by rw [← bs_len, hnew]; exact HPl.out.1
        have hP := parse_calls (S ++ ⟨#[13, 10]⟩) m wr (by omega) hmr (.bad k 3) (by rw [hnew]; exact HPl.out.2.2 _ (by rw [← bs_len, hnew]; have := HPl.out.2.1; omega))
        have HP := Lib.hid hP
        clear hnew hP hjk hT1
        go_wp2_with fail
        refine HP.out.mono ?_
        rintro e w5 ⟨hb5, he⟩
        dsimp only at he
        subst he
        have Hfin := Lib.hid (Hbw0.out.trans ((Hb.out.trans (hb5.mono Hb.out.size)).mono hsz0))
        clear HP hb5
        go_wp2
        go_ret
        exact ⟨rfl, Hfin.out.alloc (by have := Hfin.out.size; omega) _⟩
end Go.Proofs.YtlbibklbckabnaaDoor
