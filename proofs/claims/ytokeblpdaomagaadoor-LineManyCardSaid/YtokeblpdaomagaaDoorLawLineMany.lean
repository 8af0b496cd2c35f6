/- There is room for so many to whom; one who is there already has room. -/
import Derived.Test.YtokeblpdaomagaaDoorLmManyP
import Derived.Test.YtokeblpdaomagaaDoorLmLine
import Derived.Test.YtokeblpdaomagaaDoorPost
import Derived.WalkArith
namespace Go.Proofs.YtokeblpdaomagaaDoor
open Go.RowKit
set_option linter.unusedVariables false

/-- One byte as a string. -/
theorem conv_oneL {P : Program} {src e dst : TypeId} (hs : P.underlying src = some (.slice e)) (he : P.underlying e = some (.int .u8)) (hd : P.underlying dst = some .string) (w : World) (c : UInt8) :
    (convert src dst (.slice (some ⟨w.heap.size, 0, none⟩) 1 1)).run P (w.alloc (.cells #[.int .u8 c.toNat] e)) = .ok (.string (mkS [c])) (w.alloc (.cells #[.int .u8 c.toNat] e)) := by
  have h1 := run_convert_bytes_arg (P := P) (w.alloc (.cells #[.int .u8 c.toNat] e)) src e hs he w.heap.size 0 1 1 [(c.toNat : Int)] rfl (fun i hi => by
    obtain rfl : i = 0 := by omega
    have h0 := World.alloc_heap_new w (.cells #[.int .u8 c.toNat] e)
    simp only [World.cell?, h0]; rfl) dst hd
  have h2 : strOfNums [(c.toNat : Int)] = mkS [c] := strOfNums_bytes [c]
  rw [h2] at h1
  exact h1

theorem strs_u (W : World) : StrsAt (W.alloc (.cells #[.string ⟨#[117]⟩] 9)) (some ⟨W.heap.size, 0, none⟩) [uS] :=
  .inr ⟨_, _, rfl, fun j hj => by
    obtain rfl : j = 0 := by simpa using hj
    exact (Bk.new W [.string ⟨#[117]⟩] 9).cell 0 _ rfl⟩
set_option maxRecDepth 100000 in
set_option maxHeartbeats 4000000 in
theorem lineMany_walk (p : Post) (PA : Option Addr) (pc : Nat) (n : Int) (m : Int) (w : World) (hp : PostOk w p PA pc) (hn : (Lit.int .i64 n).wf = true) (hm : w.cell? ⟨0, 0, none⟩ = some (.int .i64 m)) :
    Calls Tryd.prog 6 #[.agg (postCells p PA pc).toArray, .int .i64 n] w fun e w' => e = .returned (.bool true) ∧ Below w.heap.size w w' := by
  have hb1 : Below w.heap.size w (w.alloc (.cells (postCells p PA pc).toArray 26)) := bal (Below.refl _ w) _
  have Hm := Lib.hid hm
  have Hb1 := Lib.hid hb1
  have f1 := hp.f1
  have f2 := hp.f2
  have hck := adrOf_check p.frm.loc p.frm.dom
  have had := fun W => address_calls p.frm.loc p.frm.dom p.frm.words hp.f1 hp.f2 W
  generalize adrOf p.frm.loc p.frm.dom = a at *
  obtain ⟨al, ad⟩ := a
  have Had := Lib.hid had
  have Hck := Lib.hid hck
  clear hb1 had hm hck hp
  simp only [postCells] at Hb1 ⊢
  go_enter Tryd.func6, Tryd.ntmps6
  go_wp2_with fail
  generalize w.alloc (.cells #[.string p.frm.loc, .string p.frm.dom, .string p.frm.words, .string p.rcv.loc, .string p.rcv.dom, .string p.rcv.words, .slice PA p.lines.length pc, .string p.body] 26) = w1 at *
  refine (Had.out w1).mono ?_
  rintro e w2 ⟨rfl, hb2⟩
  have Hb2 := Lib.hid (btr Hb1.out hb2)
  clear hb2
  dsimp only [adrVal]
  have hS0 := Bk.new (w2.alloc (.cells #[.string al, .string ad] 28)) [.int .i64 2, .string al, .string ad, .slice none 0 0, .string ⟨#[]⟩, .bool false] 33
  have hs2 : (w2.alloc (.cells #[.string al, .string ad] 28)).heap.size = w2.heap.size + 1 := by simp
  rw [hs2] at hS0
  have hb3 : Below w.heap.size w ((w2.alloc (.cells #[.string al, .string ad] 28)).alloc (.cells #[.int .i64 2, .string al, .string ad, .slice none 0 0, .string ⟨#[]⟩, .bool false] 33)) := bal (bal Hb2.out _) _
  have HS0 := Lib.hid hS0
  have Hb3 := Lib.hid hb3
  clear hS0 hs2 hb3
  go_upto_region 3 with fail
  generalize (w2.alloc (.cells #[.string al, .string ad] 28)).alloc (.cells #[.int .i64 2, .string al, .string ad, .slice none 0 0, .string ⟨#[]⟩, .bool false] 33) = w3 at *
  have hsA : SesAt w3 (w2.heap.size + 1) (sM ⟨al, ad⟩ 0) none 0 := ⟨HS0.out, World.ownsRow_nil _ _ _ _⟩
  have hsw := Hb2.out.size
  have HsA := Lib.hid hsA
  clear hsA HS0
  have hsb : w.heap.size ≤ w2.heap.size + 1 := by omega
  generalize w2.heap.size + 1 = sb at *
  go_wp2_with fail
  refine (picked_calls n 10 w3 hn (by decide) (by decide)).mono ?_
  rintro e w' ⟨rfl, rfl⟩
  have hk := pickN_lt n 10 (by decide)
  generalize pickN n 10 = k at *
  have hk0 : (0 : Int) ≤ (k : Int) := by omega
  go_wp2_with fail
  go_loopw [8] (fun i wr => ∃ (j : Nat) (A : Option Addr) (c : Nat), j ≤ k ∧ i = .int .i64 j ∧ SesAt wr sb (sM ⟨al, ad⟩ j) A c ∧ Below w.heap.size w wr) (fun i _ => k - (intOf i).toNat)
  case atStart => exact ⟨0, none, 0, Nat.zero_le _, rfl, HsA.out, Hb3.out⟩
  case round =>
    obtain ⟨j, A, c, hj, rfl, hS, hb⟩ := hrel
    have hv := vld_sM ⟨al, ad⟩ Hck.out j (by omega)
    have HS := Lib.hid hS
    have Hb := Lib.hid hb
    have Hv := Lib.hid hv
    have hbu : Below wr.heap.size wr (wr.alloc (.cells #[.string ⟨#[117]⟩] 9)) := bal (Below.refl _ _) _
    have hsu := strs_u wr
    clear hS hb hv
    by_cases hlt : j < k
    · have hct : ((97 + UInt8.ofNat j).toNat : Int) = 97 + (j : Int) := by
        have : ∀ i : Fin 10, ((97 + UInt8.ofNat i).toNat : Int) = 97 + ((i : Nat) : Int) := by decide
        exact this ⟨j, by omega⟩
      have hconv := conv_oneL Tryd.underlying40 Tryd.underlying5 Tryd.underlying9 (wr.alloc (.cells #[.string ⟨#[117]⟩] 9)) (97 + UInt8.ofNat j)
      rw [hct, show (wr.alloc (.cells #[.string ⟨#[117]⟩] 9)).heap.size = wr.heap.size + 1 by simp] at hconv
      have hbv : Below wr.heap.size wr ((wr.alloc (.cells #[.string ⟨#[117]⟩] 9)).alloc (.cells #[.int .u8 (97 + (j : Int))] 5)) := bal hbu _
      have hdl : (⟨#[82, 67, 80, 84, 32, 84, 79, 58, 60, 117, 64, 100]⟩ : ByteArray) ++ mkS [97 + UInt8.ofNat j] ++ ⟨#[62]⟩ = dLine j := by
        apply bs_inj
        rw [bs_append, bs_append]
        unfold dLine
        rw [bs_mkS, bs_mkS]
        rfl
      have hds := (dLine_rest j (by omega)).2.2.2.1
      have hL := line_at (sM ⟨al, ad⟩ j) A c (dLine j) [uS] (some ⟨wr.heap.size, 0, none⟩) 1 m _ sb (HS.out.later hbv) Hv.out (by omega) (hsu.later (bal (Below.refl _ _) _)) (by decide) (cell_later hbv (cell_later Hb.out Hm.out)) (fun h => absurd h (sM_step _ _).2)
      rw [line_sM, cmd_next _ j (by omega), ← hdl] at hL
      have hx0 := HS.out.bk
      have hyl : ((sM ⟨al, ad⟩ (j + 1)).rcp.length : Int) = min ((j : Int) + 1) 5 := by
        show ((((List.range (min (j + 1) 5)).map dA).length : Nat) : Int) = _
        rw [List.length_map, List.length_range]; omega
      have hS1 := HS.out
      have Hnx := Lib.hid (fun (W : World) (A2 : Option Addr) (c2 : Nat) (hb2 : Below wr.heap.size wr W) (ho : W.ownsRow 0 28 2 (.slice A2 (sM ⟨al, ad⟩ (j + 1)).rcp.length c2) (sM ⟨al, ad⟩ (j + 1)).rcp.length (adrCells (sM ⟨al, ad⟩ (j + 1)).rcp)) => (hS1.later hb2).put ho)
      clear hS1
      generalize sM ⟨al, ad⟩ j = x at *
      generalize hy : sM ⟨al, ad⟩ (j + 1) = y at *
      have Hy := Lib.hid hy
      clear hy
      unfold sesVal at hL
      have HL := Lib.hid hL
      have s0 := hx0.cell 0 _ rfl
      have s1 := hx0.cell 1 _ rfl
      have s2 := hx0.cell 2 _ rfl
      have s3 := hx0.cell 3 _ rfl
      have s4 := hx0.cell 4 _ rfl
      have s5 := hx0.cell 5 _ rfl
      have Hdl := Lib.hid hdl
      have Hyl := Lib.hid hyl
      have Hct := Lib.hid hct
      have Hbv := Lib.hid hbv
      clear hL hdl hyl hct hbv hbu hsu hx0 hds
      go_wp2_with fail
      refine HL.out.mono ?_
      rintro e w5 ⟨A2, c2, rfl, ho5, hb5⟩
      have Ho5 := Lib.hid ho5
      have Hb5 := Lib.hid (btr Hbv.out hb5)
      clear hb5 ho5 s0 s1 s2 s3 s4 s5 hconv
      dsimp only [sesVal]
      have hN := Bk.new w5 [.int .i64 y.step, .string y.frm.loc, .string y.frm.dom, .slice A2 y.rcp.length c2, .string y.text, .bool y.large] 33
      have hbN : Below w5.heap.size w5 (w5.alloc (.cells #[.int .i64 y.step, .string y.frm.loc, .string y.frm.dom, .slice A2 y.rcp.length c2, .string y.text, .bool y.large] 33)) := bal (Below.refl _ _) _
      have HN := Lib.hid hN
      have HbN := Lib.hid hbN
      clear hN hbN
      go_upto_region 8 with fail
      generalize w5.alloc (.cells #[.int .i64 y.step, .string y.frm.loc, .string y.frm.dom, .slice A2 y.rcp.length c2, .string y.text, .bool y.large] 33) = w6 at *
      have Hb6 := Lib.hid (btr Hb5.out HbN.out)
      have hS6 := HS.out.later Hb6.out
      have Ho6 := Lib.hid (row_later HbN.out Ho5.out)
      have n0 := HN.out.cell 0 _ rfl
      have n1 := HN.out.cell 1 _ rfl
      have n2 := HN.out.cell 2 _ rfl
      have n3 := HN.out.cell 3 _ rfl
      have n4 := HN.out.cell 4 _ rfl
      have n5 := HN.out.cell 5 _ rfl
      have s0 := hS6.bk.cell 0 _ rfl
      have s1 := hS6.bk.cell 1 _ rfl
      have s2 := hS6.bk.cell 2 _ rfl
      have s3 := hS6.bk.cell 3 _ rfl
      have s4 := hS6.bk.cell 4 _ rfl
      have s5 := hS6.bk.cell 5 _ rfl
      have g0 := hS6.bk.frozen 0
      have g1 := hS6.bk.frozen 1
      have g2 := hS6.bk.frozen 2
      have g3 := hS6.bk.frozen 3
      have g4 := hS6.bk.frozen 4
      have g5 := hS6.bk.frozen 5
      have hfin := Hnx.out w6 A2 c2 Hb6.out Ho6.out
      have hbf : Below w.heap.size w (put6 w6 sb y (.slice A2 y.rcp.length c2)) := put6_below (btr Hb.out Hb6.out) (by omega) _ _
      unfold put6 at hfin hbf
      have Hfin := Lib.hid hfin
      have Hbf := Lib.hid hbf
      clear hS6 hfin hbf
      have hyl := Hyl.out
      have hyn : (y.rcp.length : Int) ≤ 5 := by omega
      have hyq : ((y.rcp.length : Int) != min ((j : Int) + 1) 5) = false := by rw [hyl]; simp
      clear hyl
      by_cases h5 : 5 ≤ j
      · have h5' : (5 : Int) ≤ (j : Int) := by omega
        rw [if_pos h5]
        go_wp2_with fail
        go_roundw
        case rel => exact ⟨j + 1, A2, c2, by omega, by go_num, by rw [Hy.out]; exact Hfin.out, Hbf.out⟩
        case measure => simp [intOf]; omega
      · have h5' : ¬ (5 : Int) ≤ (j : Int) := by omega
        rw [if_neg h5]
        go_wp2_with fail
        go_roundw
        case rel => exact ⟨j + 1, A2, c2, by omega, by go_num, by rw [Hy.out]; exact Hfin.out, Hbf.out⟩
        case measure => simp [intOf]; omega
    · obtain rfl : j = k := by omega
      clear hlt
      have hbu2 : Below wr.heap.size wr (wr.alloc (.cells #[.string ⟨#[117]⟩] 9)) := bal (Below.refl _ _) _
      have hL := line_at (sM ⟨al, ad⟩ j) A c (dLine 0) [uS] (some ⟨wr.heap.size, 0, none⟩) 1 m _ sb (HS.out.later hbu2) Hv.out (by decide) hsu (by decide) (cell_later hbu2 (cell_later Hb.out Hm.out)) (fun h => absurd h (sM_step _ _).2)
      have hL2 := fun (W : World) (hbW : Below wr.heap.size wr W) => line_at (sM ⟨al, ad⟩ j) A c vLine [uS] (some ⟨W.heap.size, 0, none⟩) 1 m _ sb (HS.out.later (bal hbW (.cells #[.string ⟨#[117]⟩] 9))) Hv.out (by decide) (strs_u W) (by decide) (cell_later (bal hbW (.cells #[.string ⟨#[117]⟩] 9)) (cell_later Hb.out Hm.out)) (fun h => absurd h (sM_step _ _).2)
      have hag := cmd_again ⟨al, ad⟩ j
      rw [line_sM] at hL
      simp only [line_sM, cmd_v] at hL2
      have hx0 := HS.out.bk
      have Hbu := Lib.hid hbu2
      have HSS := Lib.hid (fun (W : World) (hbW : Below wr.heap.size wr W) => (HS.out.later hbW).bk)
      generalize cmdR (sM ⟨al, ad⟩ j) (dLine 0) [uS] = r at *
      obtain ⟨code, y⟩ := r
      simp only at hag hL
      obtain ⟨rfl, hyl⟩ := hag
      have hyq : ((y.rcp.length : Int) == max 1 (min (j : Int) 5)) = true := by rw [beq_iff_eq]; omega
      generalize sM ⟨al, ad⟩ j = x at *
      unfold sesVal at hL hL2
      have HL := Lib.hid hL
      have HL2 := Lib.hid hL2
      have s0 := hx0.cell 0 _ rfl
      have s1 := hx0.cell 1 _ rfl
      have s2 := hx0.cell 2 _ rfl
      have s3 := hx0.cell 3 _ rfl
      have s4 := hx0.cell 4 _ rfl
      have s5 := hx0.cell 5 _ rfl
      clear hL hL2 hbu2 hbu hsu hx0 hyl
      go_wp2_with fail
      refine HL.out.mono ?_
      rintro e w5 ⟨A2, c2, rfl, ho5, hb5⟩
      have Hb5 := Lib.hid (btr Hbu.out hb5)
      clear hb5 ho5 s0 s1 s2 s3 s4 s5
      dsimp only [sesVal]
      have hN := Bk.new w5 [.int .i64 y.step, .string y.frm.loc, .string y.frm.dom, .slice A2 y.rcp.length c2, .string y.text, .bool y.large] 33
      have hbN : Below w5.heap.size w5 (w5.alloc (.cells #[.int .i64 y.step, .string y.frm.loc, .string y.frm.dom, .slice A2 y.rcp.length c2, .string y.text, .bool y.large] 33)) := bal (Below.refl _ _) _
      have HN := Lib.hid hN
      have HbN := Lib.hid hbN
      clear hN hbN
      go_upto_region 15 with fail
      generalize w5.alloc (.cells #[.int .i64 y.step, .string y.frm.loc, .string y.frm.dom, .slice A2 y.rcp.length c2, .string y.text, .bool y.large] 33) = w6 at *
      have Hb6 := Lib.hid (btr Hb5.out HbN.out)
      have hx0 := HSS.out w6 Hb6.out
      have s0 := hx0.cell 0 _ rfl
      have s1 := hx0.cell 1 _ rfl
      have s2 := hx0.cell 2 _ rfl
      have s3 := hx0.cell 3 _ rfl
      have s4 := hx0.cell 4 _ rfl
      have s5 := hx0.cell 5 _ rfl
      clear hx0
      have hl2 := HL2.out w6 Hb6.out
      have Hl2 := Lib.hid hl2
      clear hl2
      go_wp2_with fail
      refine Hl2.out.mono ?_
      rintro e w7 ⟨A3, c3, rfl, ho7, hb7⟩
      have hb67 : Below w6.heap.size w6 w7 := btr (bal (Below.refl _ _) _) hb7
      have n3 := (HN.out.later hb67).cell 3 _ rfl
      have n3' := n3
      have hbz : Below w.heap.size w w7 := btr (btr Hb.out Hb6.out) hb67
      have Hbz := Lib.hid hbz
      have hN7 := HN.out.later hb67
      have hN8 := (HN.out.later hb67).later (bal (Below.refl _ w7) (.cells #[.int .i64 x.step, .string x.frm.loc, .string x.frm.dom, .slice A3 x.rcp.length c3, .string x.text, .bool x.large] 33))
      have n8 := hN8.cell 3 _ rfl
      clear n3 n3' hbz hN7 hN8 hb67 hb7 ho7 s0 s1 s2 s3 s4 s5
      dsimp only [sesVal]
      go_upto_region 16 with fail
      generalize hw8 : w7.alloc (.cells #[.int .i64 x.step, .string x.frm.loc, .string x.frm.dom, .slice A3 x.rcp.length c3, .string x.text, .bool x.large] 33) = w8 at *
      have Hbz2 : Below w.heap.size w w8 := by rw [← hw8]; exact bal Hbz.out _
      have Hbz2 := Lib.hid Hbz2
      clear hw8
      go_wp2_with fail
      go_ret
      exact ⟨rfl, Hbz2.out⟩
end Go.Proofs.YtokeblpdaomagaaDoor
