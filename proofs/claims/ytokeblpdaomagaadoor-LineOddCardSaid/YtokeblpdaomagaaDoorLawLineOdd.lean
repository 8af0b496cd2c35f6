/- A line that is no command changes nothing. -/
import Derived.Test.YtokeblpdaomagaaDoorLmOddP
import Derived.Test.YtokeblpdaomagaaDoorLmReady
import Derived.Test.YtokeblpdaomagaaDoorLmMk
namespace Go.Proofs.YtokeblpdaomagaaDoor
open Go.RowKit
set_option linter.unusedVariables false

set_option maxRecDepth 100000 in
set_option maxHeartbeats 8000000 in
theorem lineOdd_walk (p : Post) (PA : Option Addr) (pc : Nat) (odd : Int) (stp : Int) (m : Int) (w : World) (hp : PostOk w p PA pc) (hn : (Lit.int .i64 odd).wf = true) (hn2 : (Lit.int .i64 stp).wf = true) (hm : w.cell? ⟨0, 0, none⟩ = some (.int .i64 m)) :
    Calls Tryd.prog 4 #[.agg (postCells p PA pc).toArray, .int .i64 odd, .int .i64 stp] w fun e w' => e = .returned (.bool true) ∧ Below w.heap.size w w' := by
  have hb1 : Below w.heap.size w (w.alloc (.cells (postCells p PA pc).toArray 26)) := bal (Below.refl _ w) _
  have Hm := Lib.hid hm
  have Hb1 := Lib.hid hb1
  have had := fun W => address_calls p.frm.loc p.frm.dom p.frm.words hp.f1 hp.f2 W
  have hol := odd_line p.frm.loc p.frm.dom
  have hon := ord_nextM p.frm.loc p.frm.dom
  have hov := ord_vld p.frm.loc p.frm.dom
  have hls := oddL_size p.frm.loc p.frm.dom
  have hns := ordM_size p.frm.loc p.frm.dom
  have hsz := adrOf_size p.frm.loc p.frm.dom
  generalize adrOf p.frm.loc p.frm.dom = a at *
  obtain ⟨al, ad⟩ := a
  simp only at hsz
  have hpk := fun (W : World) => picked_calls odd 14 W hn (by decide) (by decide)
  have hkk := pickN_lt odd 14 (by decide)
  generalize pickN odd 14 = ko at *
  have hps := fun (W : World) => picked_calls stp 4 W hn2 (by decide) (by decide)
  have hks := pickN_lt stp 4 (by decide)
  generalize pickN stp 4 = ks at *
  have Hpk := Lib.hid hpk
  have Hps := Lib.hid hps
  have Had := Lib.hid had
  have Hol := Lib.hid hol
  have Hon := Lib.hid hon
  have Hov := Lib.hid hov
  have Hls := Lib.hid hls
  have Hns := Lib.hid hns
  clear hb1 had hm hp hol hon hov hls hns hpk hps
  simp only [postCells] at Hb1 ⊢
  go_enter Tryd.func4, Tryd.ntmps4
  go_wp2_with fail
  generalize w.alloc (.cells #[.string p.frm.loc, .string p.frm.dom, .string p.frm.words, .string p.rcv.loc, .string p.rcv.dom, .string p.rcv.words, .slice PA p.lines.length pc, .string p.body] 26) = w1 at *
  refine (Had.out w1).mono ?_
  rintro e w2 ⟨rfl, hb2⟩
  have Hb2 := Lib.hid (btr Hb1.out hb2)
  clear hb2
  dsimp only [adrVal]
  have hF := Bk.new w2 [.string al, .string ad] 28
  have hb3 : Below w.heap.size w (w2.alloc (.cells #[.string al, .string ad] 28)) := bal Hb2.out _
  have HF := Lib.hid hF
  have Hb3 := Lib.hid hb3
  clear hF hb3
  go_upto_region 2 with fail
  generalize w2.alloc (.cells #[.string al, .string ad] 28) = w3 at *
  have a0 := HF.out.cell 0 _ rfl
  have a1 := HF.out.cell 1 _ rfl
  have e1 := bytes_ang ⟨al, ad⟩ mailL
  have e2 := bytes_ang ⟨al, ad⟩ rcptU
  have e3 := bytes_ang ⟨al, ad⟩ mailB
  simp only at e1 e2 e3
  have hL := Bk.new w3 [.string ⟨#[76, 72, 76, 79, 32, 97]⟩, .string ((⟨#[77, 65, 73, 76, 32, 70, 82, 79, 77, 58]⟩ : ByteArray) ++ ((⟨#[60]⟩ : ByteArray) ++ al ++ ⟨#[64]⟩ ++ ad ++ ⟨#[62]⟩)), .string ((⟨#[82, 67, 80, 84, 32, 84, 79, 58]⟩ : ByteArray) ++ ((⟨#[60]⟩ : ByteArray) ++ al ++ ⟨#[64]⟩ ++ ad ++ ⟨#[62]⟩))] 9
  have hb5 : Below w3.heap.size w3 (w3.alloc (.cells #[.string ⟨#[76, 72, 76, 79, 32, 97]⟩, .string ((⟨#[77, 65, 73, 76, 32, 70, 82, 79, 77, 58]⟩ : ByteArray) ++ ((⟨#[60]⟩ : ByteArray) ++ al ++ ⟨#[64]⟩ ++ ad ++ ⟨#[62]⟩)), .string ((⟨#[82, 67, 80, 84, 32, 84, 79, 58]⟩ : ByteArray) ++ ((⟨#[60]⟩ : ByteArray) ++ al ++ ⟨#[64]⟩ ++ ad ++ ⟨#[62]⟩))] 9)) := bal (Below.refl _ _) _
  rw [show mkS mailL = ⟨#[77, 65, 73, 76, 32, 70, 82, 79, 77, 58]⟩ from rfl] at e1
  rw [show mkS rcptU = ⟨#[82, 67, 80, 84, 32, 84, 79, 58]⟩ from rfl] at e2
  rw [show mkS mailB = ⟨#[77, 65, 73, 76, 32, 70, 82, 79, 77, 58, 32]⟩ from rfl] at e3
  have HL := Lib.hid hL
  have Hb5 := Lib.hid hb5
  have E1 := Lib.hid e1
  have E2 := Lib.hid e2
  have E3 := Lib.hid e3
  clear hL hb5 e1 e2 e3
  go_upto_region 4 with fail
  generalize w3.alloc (.cells #[.string ⟨#[76, 72, 76, 79, 32, 97]⟩, .string ((⟨#[77, 65, 73, 76, 32, 70, 82, 79, 77, 58]⟩ : ByteArray) ++ ((⟨#[60]⟩ : ByteArray) ++ al ++ ⟨#[64]⟩ ++ ad ++ ⟨#[62]⟩)), .string ((⟨#[82, 67, 80, 84, 32, 84, 79, 58]⟩ : ByteArray) ++ ((⟨#[60]⟩ : ByteArray) ++ al ++ ⟨#[64]⟩ ++ ad ++ ⟨#[62]⟩))] 9) = w5 at *
  have hL := HL.out
  rw [E1.out, E2.out] at hL
  have HL := Lib.hid (show Bk w5 w3.heap.size [.string lLhloU, .string (mkS (mailL ++ angL ⟨al, ad⟩)), .string (mkS (rcptU ++ angL ⟨al, ad⟩))] 9 from hL)
  have hcs : Below w5.heap.size w5 (w5.alloc (.cells #[.int .i64 0, .string ⟨#[]⟩, .string ⟨#[]⟩, .slice none 0 0, .string ⟨#[]⟩, .bool false] 33)) := bal (Below.refl _ _) _
  have hS := Bk.new w5 [.int .i64 0, .string ⟨#[]⟩, .string ⟨#[]⟩, .slice none 0 0, .string ⟨#[]⟩, .bool false] 33
  have hlF := HF.out.lt
  have hlL := HL.out.lt
  have hw3 := Hb3.out.size
  have hs45 := Hb5.out.size
  have HF6 := Lib.hid ((HF.out.later Hb5.out).later hcs)
  have HL6 := Lib.hid (HL.out.later hcs)
  have Hb6 := Lib.hid (btr (btr Hb3.out Hb5.out) hcs)
  have HS6 := Lib.hid hS
  clear hL hcs hS a0 a1 HF HL Hb5 E1 E2 Hb1 Hb2 Hb3
  go_upto_region 5 with fail
  generalize w5.alloc (.cells #[.int .i64 0, .string ⟨#[]⟩, .string ⟨#[]⟩, .slice none 0 0, .string ⟨#[]⟩, .bool false] 33) = w6 at *
  have HsA := Lib.hid (show SesAt w6 w5.heap.size (ordS ⟨al, ad⟩ 0) none 0 from ⟨HS6.out, World.ownsRow_nil _ _ _ _⟩)
  have hsl := HS6.out.lt
  clear HS6
  generalize w5.heap.size = sb at *
  generalize w3.heap.size = qL at *
  generalize w2.heap.size = qA at *
  have hqA : qA < sb := by omega
  have hwsb : w.heap.size ≤ sb := by omega
  go_wp2_with fail
  go_loopw [11] (fun i wr => ∃ (j : Nat) (A : Option Addr) (c : Nat), j ≤ ks ∧ i = .int .i64 j ∧ SesAt wr sb (ordS ⟨al, ad⟩ j) A c ∧ Below sb w6 wr) (fun i _ => ks - (intOf i).toNat)
  case atStart => exact ⟨0, none, 0, Nat.zero_le _, rfl, HsA.out, Below.refl _ _⟩
  case round =>
    obtain ⟨j, A, c, hj, rfl, hS, hb⟩ := hrel
    generalize wr = wi at *
    have hFr := HF6.out.below hb (by omega)
    have hLr := HL6.out.below hb (by omega)
    have hbw : Below w.heap.size w wi := Hb6.out.trans (hb.mono (by omega))
    have hmr := cell_later hbw Hm.out
    have hsr := hb.size
    have HS := Lib.hid hS
    have Hb := Lib.hid hb
    have HFr := Lib.hid hFr
    have HLr := Lib.hid hLr
    have Hbw := Lib.hid hbw
    have Hmr := Lib.hid hmr
    clear hS hb hFr hLr hbw hmr
    go_wp2_with fail
    refine (Hps.out wi).mono ?_
    rintro e w' ⟨rfl, rfl⟩
    by_cases hlt : j < ks
    · have hj0 : (0 : Int) ≤ (j : Int) := by omega
      have hj3 : (j : Int) < 3 := by omega
      have hjk : (j : Int) < (ks : Int) := by omega
      have hlc := HLr.out.cell j _ (ordM_cell ⟨al, ad⟩ j (by omega))
      have ha0 := HFr.out.cell 0 _ rfl
      have hmr := Hmr.out
      have hns := Hns.out j
      have hon := Hon.out j (by omega)
      have hv := Hov.out j (by omega)
      have hst := ordS_step ⟨al, ad⟩ j
      have hS := HS.out
      have hput := fun (W : World) (A2 : Option Addr) (c2 : Nat) (hb2 : Below wi.heap.size wi W) (ho : W.ownsRow 0 28 2 (.slice A2 (ordS ⟨al, ad⟩ (j + 1)).rcp.length c2) (ordS ⟨al, ad⟩ (j + 1)).rcp.length (adrCells (ordS ⟨al, ad⟩ (j + 1)).rcp)) => (hS.later hb2).put ho
      generalize ordM ⟨al, ad⟩ j = line at *
      generalize ordS ⟨al, ad⟩ j = x at *
      generalize hy : ordS ⟨al, ad⟩ (j + 1) = y at *
      have Hy := Lib.hid hy
      have Hput := Lib.hid hput
      clear hput hy
      have hd := bdr wi
      have hcall := fun (W : World) (K : Option Addr) (hW : Below wi.drew.heap.size wi.drew W) (hK : StrsAt W K [al]) => line_at x A c line [al] K 1 m W sb ((hS.later hd).later hW) hv (by omega) hK (by simp) (cell_later hW (cell_later hd hmr)) (fun h => absurd h hst.2)
      simp only [hon, List.length_cons, List.length_nil, Nat.zero_add] at hcall
      unfold sesVal at hcall
      have s0 := hS.bk.cell 0 _ rfl
      have s1 := hS.bk.cell 1 _ rfl
      have s2 := hS.bk.cell 2 _ rfl
      have s3 := hS.bk.cell 3 _ rfl
      have s4 := hS.bk.cell 4 _ rfl
      have s5 := hS.bk.cell 5 _ rfl
      have hmk := fun (W : World) (hW : Below wi.drew.heap.size wi.drew W) => And.intro (cell_later hW (cell_later hd s0)) (And.intro (cell_later hW (cell_later hd s1)) (And.intro (cell_later hW (cell_later hd s2)) (And.intro (cell_later hW (cell_later hd s3)) (And.intro (cell_later hW (cell_later hd s4)) (And.intro (cell_later hW (cell_later hd s5)) (And.intro (cell_later hW (cell_later hd ha0)) (And.intro (cell_later hW (cell_later hd hlc)) hW)))))))
      have Hmk := Lib.hid hmk
      have Hcall := Lib.hid hcall
      have HS2 := Lib.hid hS
      have hKK := Hmk.out wi.drew (Below.refl _ _)
      have hK1 : StrsAt ((wi.alloc (.cells #[.int .i64 0, .string ⟨#[]⟩, .string ⟨#[]⟩, .slice none 0 0, .string ⟨#[]⟩, .bool false] 33)).alloc (.cells #[.string al] 9)).drew (some ⟨wi.heap.size + 1, 0, none⟩) [al] := by
        have h := (strs_new (wi.alloc (.cells #[.int .i64 0, .string ⟨#[]⟩, .string ⟨#[]⟩, .slice none 0 0, .string ⟨#[]⟩, .bool false] 33)) al).later (bdr _)
        rw [show (wi.alloc (.cells #[.int .i64 0, .string ⟨#[]⟩, .string ⟨#[]⟩, .slice none 0 0, .string ⟨#[]⟩, .bool false] 33)).heap.size = wi.heap.size + 1 by simp] at h
        exact h
      have hK2 : StrsAt ((wi.alloc (.cells #[.string al] 9)).alloc (.cells #[.int .i64 0, .string ⟨#[]⟩, .string ⟨#[]⟩, .slice none 0 0, .string ⟨#[]⟩, .bool false] 33)).drew (some ⟨wi.heap.size, 0, none⟩) [al] := ((strs_new wi al).later (bal (Below.refl _ (wi.alloc (.cells #[.string al] 9))) (.cells #[.int .i64 0, .string ⟨#[]⟩, .string ⟨#[]⟩, .slice none 0 0, .string ⟨#[]⟩, .bool false] 33))).later (bdr _)
      have hK3 : StrsAt (wi.alloc (.cells #[.string al] 9)).drew (some ⟨wi.heap.size, 0, none⟩) [al] := (strs_new wi al).later (bdr _)
      have hZ1 : Bk ((wi.alloc (.cells #[.int .i64 0, .string ⟨#[]⟩, .string ⟨#[]⟩, .slice none 0 0, .string ⟨#[]⟩, .bool false] 33)).alloc (.cells #[.string al] 9)).drew wi.heap.size zeroC 33 := ((Bk.new wi zeroC 33).alloc _).later (bdr _)
      have hZ2 : Bk ((wi.alloc (.cells #[.string al] 9)).alloc (.cells #[.int .i64 0, .string ⟨#[]⟩, .string ⟨#[]⟩, .slice none 0 0, .string ⟨#[]⟩, .bool false] 33)).drew (wi.heap.size + 1) zeroC 33 := by
        have h := (Bk.new (wi.alloc (.cells #[.string al] 9)) zeroC 33).later (bdr _)
        rw [show (wi.alloc (.cells #[.string al] 9)).heap.size = wi.heap.size + 1 by simp] at h
        exact h
      have HK1 := Lib.hid hK1
      have HK2 := Lib.hid hK2
      have HK3 := Lib.hid hK3
      have HZ1 := Lib.hid hZ1
      have HZ2 := Lib.hid hZ2
      have hM1 := Hmk.out (wi.alloc (.cells #[.string al] 9)).drew (bal (Below.refl _ wi.drew) (.cells #[.string al] 9))
      have hM2 := Hmk.out (wi.alloc (.cells #[.int .i64 0, .string ⟨#[]⟩, .string ⟨#[]⟩, .slice none 0 0, .string ⟨#[]⟩, .bool false] 33)).drew (bal (Below.refl _ wi.drew) (.cells #[.int .i64 0, .string ⟨#[]⟩, .string ⟨#[]⟩, .slice none 0 0, .string ⟨#[]⟩, .bool false] 33))
      have hM3 := Hmk.out ((wi.alloc (.cells #[.string al] 9)).alloc (.cells #[.int .i64 0, .string ⟨#[]⟩, .string ⟨#[]⟩, .slice none 0 0, .string ⟨#[]⟩, .bool false] 33)).drew (bal (bal (Below.refl _ wi.drew) (.cells #[.string al] 9)) (.cells #[.int .i64 0, .string ⟨#[]⟩, .string ⟨#[]⟩, .slice none 0 0, .string ⟨#[]⟩, .bool false] 33))
      have hM4 := Hmk.out ((wi.alloc (.cells #[.int .i64 0, .string ⟨#[]⟩, .string ⟨#[]⟩, .slice none 0 0, .string ⟨#[]⟩, .bool false] 33)).alloc (.cells #[.string al] 9)).drew (bal (bal (Below.refl _ wi.drew) (.cells #[.int .i64 0, .string ⟨#[]⟩, .string ⟨#[]⟩, .slice none 0 0, .string ⟨#[]⟩, .bool false] 33)) (.cells #[.string al] 9))
      have HM1 := Lib.hid hM1
      have HM2 := Lib.hid hM2
      have HM3 := Lib.hid hM3
      have HM4 := Lib.hid hM4
      clear hM1 hM2 hM3 hM4 hK1 hK2 hK3 hZ1 hZ2 hmk hcall hd s0 s1 s2 s3 s4 s5 hns hon hv hst hS ha0 hlc hmr
      go_upto_region 8 with fail
      go_region_held3 (fun W => W.cell? ⟨sb, 0, none⟩ = some (.int .i64 x.step) ∧ W.cell? ⟨sb, 1, none⟩ = some (.string x.frm.loc) ∧ W.cell? ⟨sb, 2, none⟩ = some (.string x.frm.dom) ∧ W.cell? ⟨sb, 3, none⟩ = some (.slice A x.rcp.length c) ∧ W.cell? ⟨sb, 4, none⟩ = some (.string x.text) ∧ W.cell? ⟨sb, 5, none⟩ = some (.bool x.large) ∧ W.cell? ⟨qA, 0, none⟩ = some (.string al) ∧ W.cell? ⟨qL, j, none⟩ = some (.string line) ∧ Below wi.drew.heap.size wi.drew W) (first | (with_reducible assumption) | (with_reducible exact HM1.out) | (with_reducible exact HM2.out) | (with_reducible exact HM3.out) | (with_reducible exact HM4.out) | (with_reducible exact Hmk.out _ (bal (k8 hKK) _)) | ((with_reducible refine Hmk.out _ (Below.setCell (Below.setCell (Below.setCell (Below.setCell (Below.setCell (Below.setCell (k8 hKK) ?_ _) ?_ _) ?_ _) ?_ _) ?_ _) ?_ _)) <;> first | exact Nat.le_refl _ | exact Nat.le_succ _))
        (first | (go_at_call 10; (with_reducible refine (Hcall.out _ _ ?_ ?_).mono ?_); exact (k8 (by with_reducible first | exact hS | assumption)); (with_reducible first | exact HK3.out | exact HK1.out | exact HK2.out); rintro e w9 ⟨A5, c5, rfl, ho9, hb9⟩; dsimp only [sesVal]; have hKK := Hmk.out w9 (btr (k8 (by with_reducible first | exact hS | assumption)) hb9); try (first | (have hB9 : Bk w9 wi.heap.size zeroC 33 := (by with_reducible exact HZ1.out.later hb9); have y0 := hB9.cell 0 _ rfl; have y1 := hB9.cell 1 _ rfl; have y2 := hB9.cell 2 _ rfl; have y3 := hB9.cell 3 _ rfl; have y4 := hB9.cell 4 _ rfl; have y5 := hB9.cell 5 _ rfl; have f0 := hB9.frozen 0; have f1 := hB9.frozen 1; have f2 := hB9.frozen 2; have f3 := hB9.frozen 3; have f4 := hB9.frozen 4; have f5 := hB9.frozen 5) | (have hB9 : Bk w9 (wi.heap.size + 1) zeroC 33 := (by with_reducible exact HZ2.out.later hb9); have y0 := hB9.cell 0 _ rfl; have y1 := hB9.cell 1 _ rfl; have y2 := hB9.cell 2 _ rfl; have y3 := hB9.cell 3 _ rfl; have y4 := hB9.cell 4 _ rfl; have y5 := hB9.cell 5 _ rfl; have f0 := hB9.frozen 0; have f1 := hB9.frozen 1; have f2 := hB9.frozen 2; have f3 := hB9.frozen 3; have f4 := hB9.frozen 4; have f5 := hB9.frozen 5))))
      all_goals (
        first
          | (have hW := got_put (btr (bdr wi) (k8 hKK)) (show Bk w9 wi.heap.size zeroC 33 from hB9) ho9 (Nat.le_refl _)
             unfold put6 at hW
             clear hKK hb9 HM1 HM2 HM3 HM4 Hmk Hcall ho9 HK1 HK2 HK3 HZ1 HZ2 hB9 y0 y1 y2 y3 y4 y5 f0 f1 f2 f3 f4 f5
             generalize (((((w9.setCell ⟨wi.heap.size, 0, none⟩ (.int .i64 y.step)).setCell ⟨wi.heap.size, 1, none⟩ (.string y.frm.loc)).setCell ⟨wi.heap.size, 2, none⟩ (.string y.frm.dom)).setCell ⟨wi.heap.size, 3, none⟩ (.slice A5 y.rcp.length c5)).setCell ⟨wi.heap.size, 4, none⟩ (.string y.text)).setCell ⟨wi.heap.size, 5, none⟩ (.bool y.large) = W at *)
          | (have hW := got_put (btr (bdr wi) (k8 hKK)) (show Bk w9 (wi.heap.size + 1) zeroC 33 from hB9) ho9 (Nat.le_succ _)
             unfold put6 at hW
             clear hKK hb9 HM1 HM2 HM3 HM4 Hmk Hcall ho9 HK1 HK2 HK3 HZ1 HZ2 hB9 y0 y1 y2 y3 y4 y5 f0 f1 f2 f3 f4 f5
             generalize (((((w9.setCell ⟨wi.heap.size + 1, 0, none⟩ (.int .i64 y.step)).setCell ⟨wi.heap.size + 1, 1, none⟩ (.string y.frm.loc)).setCell ⟨wi.heap.size + 1, 2, none⟩ (.string y.frm.dom)).setCell ⟨wi.heap.size + 1, 3, none⟩ (.slice A5 y.rcp.length c5)).setCell ⟨wi.heap.size + 1, 4, none⟩ (.string y.text)).setCell ⟨wi.heap.size + 1, 5, none⟩ (.bool y.large) = W at *)
          | (have hW := got_new (btr (bdr wi) (k8 hKK)) ho9
             unfold sesCells at hW
             clear hKK hb9 HM1 HM2 HM3 HM4 Hmk Hcall ho9 HK1 HK2 HK3 HZ1 HZ2
             generalize w9.alloc (.cells #[.int .i64 y.step, .string y.frm.loc, .string y.frm.dom, .slice A5 y.rcp.length c5, .string y.text, .bool y.large] 33) = W at *))
      all_goals (
        have n0 := hW.at_.bk.cell 0 _ rfl
        have n1 := hW.at_.bk.cell 1 _ rfl
        have n2 := hW.at_.bk.cell 2 _ rfl
        have n3 := hW.at_.bk.cell 3 _ rfl
        have n4 := hW.at_.bk.cell 4 _ rfl
        have n5 := hW.at_.bk.cell 5 _ rfl
        have hx6 := (HS2.out.later hW.bel).bk
        have s0 := hx6.cell 0 _ rfl
        have s1 := hx6.cell 1 _ rfl
        have s2 := hx6.cell 2 _ rfl
        have s3 := hx6.cell 3 _ rfl
        have s4 := hx6.cell 4 _ rfl
        have s5 := hx6.cell 5 _ rfl
        have g0 := hx6.frozen 0
        have g1 := hx6.frozen 1
        have g2 := hx6.frozen 2
        have g3 := hx6.frozen 3
        have g4 := hx6.frozen 4
        have g5 := hx6.frozen 5
        have hfin := Hput.out W A5 c5 hW.bel hW.at_.row
        have hbf : Below sb w6 (put6 W sb y (.slice A5 y.rcp.length c5)) := put6_belowB (Hb.out.trans (hW.bel.mono (by omega))) (Nat.le_refl _) _ _
        unfold put6 at hfin hbf
        have Hfin := Lib.hid hfin
        have Hbf := Lib.hid hbf
        clear hfin hbf hW hx6
        go_wp2_with fail
        go_roundw
        case rel => exact ⟨j + 1, A5, c5, by omega, by go_num, by rw [Hy.out]; exact Hfin.out, Hbf.out⟩
        case measure => simp [intOf]; omega)
    · obtain rfl : j = ks := by omega
      clear hlt
      have hmk4 : Sem.run Tryd.prog (Instr.makeSlice 40 (.int .i64 400) (.int .i64 400)) wi = .ok (.slice (some ⟨wi.heap.size, 0, none⟩) 400 400) (wi.alloc (.cells (madeCells #[.int .u8 0] 400) 5)) := make_u8 400 (by decide) wi
      have hcv4 := conv_zer 400 (by decide) wi
      go_upto_region 12 with fail
      have hO := Bk.new (wi.alloc (.cells (madeCells #[.int .u8 0] 400) 5)) [.string ⟨#[]⟩, .string ⟨#[72, 69, 76, 79, 32, 97]⟩, .string ⟨#[76, 72, 76, 79]⟩, .string ⟨#[76, 72, 76, 79, 32]⟩, .string ⟨#[76, 72, 76, 79, 32, 97, 32, 98]⟩, .string ((⟨#[77, 65, 73, 76, 32, 70, 82, 79, 77, 58, 32]⟩ : ByteArray) ++ ((⟨#[60]⟩ : ByteArray) ++ al ++ ⟨#[64]⟩ ++ ad ++ ⟨#[62]⟩)), .string ⟨#[77, 65, 73, 76, 32, 70, 82, 79, 77, 58, 60, 62]⟩, .string ⟨#[82, 67, 80, 84, 32, 84, 79, 58, 60, 97, 64, 98, 62, 32]⟩, .string ⟨#[82, 67, 80, 84, 32, 84, 79, 58, 60, 110, 48, 110, 101, 64, 98, 62]⟩, .string ⟨#[100, 97, 116, 97, 32]⟩, .string ⟨#[78, 79, 79, 80, 32, 120]⟩, .string ⟨#[113, 117, 105, 116, 46]⟩, .string ⟨#[82, 67, 80, 84, 32, 84, 79, 58, 120, 32, 60, 97, 64, 98, 62]⟩, .string (zerS 400)] 9
      rw [show (wi.alloc (.cells (madeCells #[.int .u8 0] 400) 5)).heap.size = wi.heap.size + 1 by simp] at hO
      have HO := Lib.hid hO
      have hbO : Below wi.heap.size wi ((wi.alloc (.cells (madeCells #[.int .u8 0] 400) 5)).alloc (.cells #[.string ⟨#[]⟩, .string ⟨#[72, 69, 76, 79, 32, 97]⟩, .string ⟨#[76, 72, 76, 79]⟩, .string ⟨#[76, 72, 76, 79, 32]⟩, .string ⟨#[76, 72, 76, 79, 32, 97, 32, 98]⟩, .string ((⟨#[77, 65, 73, 76, 32, 70, 82, 79, 77, 58, 32]⟩ : ByteArray) ++ ((⟨#[60]⟩ : ByteArray) ++ al ++ ⟨#[64]⟩ ++ ad ++ ⟨#[62]⟩)), .string ⟨#[77, 65, 73, 76, 32, 70, 82, 79, 77, 58, 60, 62]⟩, .string ⟨#[82, 67, 80, 84, 32, 84, 79, 58, 60, 97, 64, 98, 62, 32]⟩, .string ⟨#[82, 67, 80, 84, 32, 84, 79, 58, 60, 110, 48, 110, 101, 64, 98, 62]⟩, .string ⟨#[100, 97, 116, 97, 32]⟩, .string ⟨#[78, 79, 79, 80, 32, 120]⟩, .string ⟨#[113, 117, 105, 116, 46]⟩, .string ⟨#[82, 67, 80, 84, 32, 84, 79, 58, 120, 32, 60, 97, 64, 98, 62]⟩, .string (zerS 400)] 9)) := bal (bal (Below.refl _ _) _) _
      have HbO := Lib.hid hbO
      clear hO hbO
      go_upto_region 13 with fail
      generalize (wi.alloc (.cells (madeCells #[.int .u8 0] 400) 5)).alloc (.cells #[.string ⟨#[]⟩, .string ⟨#[72, 69, 76, 79, 32, 97]⟩, .string ⟨#[76, 72, 76, 79]⟩, .string ⟨#[76, 72, 76, 79, 32]⟩, .string ⟨#[76, 72, 76, 79, 32, 97, 32, 98]⟩, .string ((⟨#[77, 65, 73, 76, 32, 70, 82, 79, 77, 58, 32]⟩ : ByteArray) ++ ((⟨#[60]⟩ : ByteArray) ++ al ++ ⟨#[64]⟩ ++ ad ++ ⟨#[62]⟩)), .string ⟨#[77, 65, 73, 76, 32, 70, 82, 79, 77, 58, 60, 62]⟩, .string ⟨#[82, 67, 80, 84, 32, 84, 79, 58, 60, 97, 64, 98, 62, 32]⟩, .string ⟨#[82, 67, 80, 84, 32, 84, 79, 58, 60, 110, 48, 110, 101, 64, 98, 62]⟩, .string ⟨#[100, 97, 116, 97, 32]⟩, .string ⟨#[78, 79, 79, 80, 32, 120]⟩, .string ⟨#[113, 117, 105, 116, 46]⟩, .string ⟨#[82, 67, 80, 84, 32, 84, 79, 58, 120, 32, 60, 97, 64, 98, 62]⟩, .string (zerS 400)] 9) = wo at *
      have hO := HO.out
      rw [E3.out] at hO
      have HO := Lib.hid (show Bk wo (wi.heap.size + 1) ((oddL ⟨al, ad⟩).map Value.string) 9 from hO)
      have hkn : ko < 14 := by omega
      have hk0 : (0 : Int) ≤ (ko : Int) := by omega
      have hk14 : (ko : Int) < 14 := by omega
      have hlc := HO.out.cell ko _ (oddL_cell ⟨al, ad⟩ ko hkn)
      have ha0 := (HFr.out.later HbO.out).cell 0 _ rfl
      have hmr := cell_later HbO.out Hmr.out
      have hns := Hls.out ko hkn
      have hol := Hol.out (ordS ⟨al, ad⟩ j) ko hkn
      have hv := Hov.out j (by omega)
      have hst := ordS_step ⟨al, ad⟩ j
      have hS := HS.out.later HbO.out
      have Hbo := Lib.hid (btr Hbw.out HbO.out)
      clear hO hmk4 hcv4
      generalize (oddL ⟨al, ad⟩).getD ko ⟨#[]⟩ = line at *
      generalize ordS ⟨al, ad⟩ j = x at *
      have hon := lineR_cmd x hst.1 hst.2 [al] line
      rw [hol.2] at hon
      generalize (cmdR x line [al]).1 = code at *
      have hcode : (500 : Int) ≤ code := hol.1
      generalize wi.heap.size + 1 = qO at *
      clear hol
      have hd := bdr wo
      have hcall := fun (W : World) (K : Option Addr) (hW : Below wo.drew.heap.size wo.drew W) (hK : StrsAt W K [al]) => line_at x A c line [al] K 1 m W sb ((hS.later hd).later hW) hv (by omega) hK (by simp) (cell_later hW (cell_later hd hmr)) (fun h => absurd h hst.2)
      simp only [hon, List.length_cons, List.length_nil, Nat.zero_add] at hcall
      unfold sesVal at hcall
      have s0 := hS.bk.cell 0 _ rfl
      have s1 := hS.bk.cell 1 _ rfl
      have s2 := hS.bk.cell 2 _ rfl
      have s3 := hS.bk.cell 3 _ rfl
      have s4 := hS.bk.cell 4 _ rfl
      have s5 := hS.bk.cell 5 _ rfl
      have hmk := fun (W : World) (hW : Below wo.drew.heap.size wo.drew W) => And.intro (cell_later hW (cell_later hd s0)) (And.intro (cell_later hW (cell_later hd s1)) (And.intro (cell_later hW (cell_later hd s2)) (And.intro (cell_later hW (cell_later hd s3)) (And.intro (cell_later hW (cell_later hd s4)) (And.intro (cell_later hW (cell_later hd s5)) (And.intro (cell_later hW (cell_later hd ha0)) (And.intro (cell_later hW (cell_later hd hlc)) hW)))))))
      have Hmk := Lib.hid hmk
      have Hcall := Lib.hid hcall
      have HS2 := Lib.hid hS
      have hKK := Hmk.out wo.drew (Below.refl _ _)
      have hK1 : StrsAt ((wo.alloc (.cells #[.int .i64 0, .string ⟨#[]⟩, .string ⟨#[]⟩, .slice none 0 0, .string ⟨#[]⟩, .bool false] 33)).alloc (.cells #[.string al] 9)).drew (some ⟨wo.heap.size + 1, 0, none⟩) [al] := by
        have h := (strs_new (wo.alloc (.cells #[.int .i64 0, .string ⟨#[]⟩, .string ⟨#[]⟩, .slice none 0 0, .string ⟨#[]⟩, .bool false] 33)) al).later (bdr _)
        rw [show (wo.alloc (.cells #[.int .i64 0, .string ⟨#[]⟩, .string ⟨#[]⟩, .slice none 0 0, .string ⟨#[]⟩, .bool false] 33)).heap.size = wo.heap.size + 1 by simp] at h
        exact h
      have hK2 : StrsAt ((wo.alloc (.cells #[.string al] 9)).alloc (.cells #[.int .i64 0, .string ⟨#[]⟩, .string ⟨#[]⟩, .slice none 0 0, .string ⟨#[]⟩, .bool false] 33)).drew (some ⟨wo.heap.size, 0, none⟩) [al] := ((strs_new wo al).later (bal (Below.refl _ (wo.alloc (.cells #[.string al] 9))) (.cells #[.int .i64 0, .string ⟨#[]⟩, .string ⟨#[]⟩, .slice none 0 0, .string ⟨#[]⟩, .bool false] 33))).later (bdr _)
      have hK3 : StrsAt (wo.alloc (.cells #[.string al] 9)).drew (some ⟨wo.heap.size, 0, none⟩) [al] := (strs_new wo al).later (bdr _)
      have hZ1 : Bk ((wo.alloc (.cells #[.int .i64 0, .string ⟨#[]⟩, .string ⟨#[]⟩, .slice none 0 0, .string ⟨#[]⟩, .bool false] 33)).alloc (.cells #[.string al] 9)).drew wo.heap.size zeroC 33 := ((Bk.new wo zeroC 33).alloc _).later (bdr _)
      have hZ2 : Bk ((wo.alloc (.cells #[.string al] 9)).alloc (.cells #[.int .i64 0, .string ⟨#[]⟩, .string ⟨#[]⟩, .slice none 0 0, .string ⟨#[]⟩, .bool false] 33)).drew (wo.heap.size + 1) zeroC 33 := by
        have h := (Bk.new (wo.alloc (.cells #[.string al] 9)) zeroC 33).later (bdr _)
        rw [show (wo.alloc (.cells #[.string al] 9)).heap.size = wo.heap.size + 1 by simp] at h
        exact h
      have HK1 := Lib.hid hK1
      have HK2 := Lib.hid hK2
      have HK3 := Lib.hid hK3
      have HZ1 := Lib.hid hZ1
      have HZ2 := Lib.hid hZ2
      have hM1 := Hmk.out (wo.alloc (.cells #[.string al] 9)).drew (bal (Below.refl _ wo.drew) (.cells #[.string al] 9))
      have hM2 := Hmk.out (wo.alloc (.cells #[.int .i64 0, .string ⟨#[]⟩, .string ⟨#[]⟩, .slice none 0 0, .string ⟨#[]⟩, .bool false] 33)).drew (bal (Below.refl _ wo.drew) (.cells #[.int .i64 0, .string ⟨#[]⟩, .string ⟨#[]⟩, .slice none 0 0, .string ⟨#[]⟩, .bool false] 33))
      have hM3 := Hmk.out ((wo.alloc (.cells #[.string al] 9)).alloc (.cells #[.int .i64 0, .string ⟨#[]⟩, .string ⟨#[]⟩, .slice none 0 0, .string ⟨#[]⟩, .bool false] 33)).drew (bal (bal (Below.refl _ wo.drew) (.cells #[.string al] 9)) (.cells #[.int .i64 0, .string ⟨#[]⟩, .string ⟨#[]⟩, .slice none 0 0, .string ⟨#[]⟩, .bool false] 33))
      have hM4 := Hmk.out ((wo.alloc (.cells #[.int .i64 0, .string ⟨#[]⟩, .string ⟨#[]⟩, .slice none 0 0, .string ⟨#[]⟩, .bool false] 33)).alloc (.cells #[.string al] 9)).drew (bal (bal (Below.refl _ wo.drew) (.cells #[.int .i64 0, .string ⟨#[]⟩, .string ⟨#[]⟩, .slice none 0 0, .string ⟨#[]⟩, .bool false] 33)) (.cells #[.string al] 9))
      have HM1 := Lib.hid hM1
      have HM2 := Lib.hid hM2
      have HM3 := Lib.hid hM3
      have HM4 := Lib.hid hM4
      clear hM1 hM2 hM3 hM4 hK1 hK2 hK3 hZ1 hZ2 hmk hcall hd s0 s1 s2 s3 s4 s5 hns hon hv hst hS ha0 hlc hmr
      go_wp2_with fail
      go_region_held3 (fun W => W.cell? ⟨sb, 0, none⟩ = some (.int .i64 x.step) ∧ W.cell? ⟨sb, 1, none⟩ = some (.string x.frm.loc) ∧ W.cell? ⟨sb, 2, none⟩ = some (.string x.frm.dom) ∧ W.cell? ⟨sb, 3, none⟩ = some (.slice A x.rcp.length c) ∧ W.cell? ⟨sb, 4, none⟩ = some (.string x.text) ∧ W.cell? ⟨sb, 5, none⟩ = some (.bool x.large) ∧ W.cell? ⟨qA, 0, none⟩ = some (.string al) ∧ W.cell? ⟨qO, ko, none⟩ = some (.string line) ∧ Below wo.drew.heap.size wo.drew W) (first | (with_reducible assumption) | (with_reducible exact HM1.out) | (with_reducible exact HM2.out) | (with_reducible exact HM3.out) | (with_reducible exact HM4.out) | (with_reducible exact Hmk.out _ (bal (k8 hKK) _)) | ((with_reducible refine Hmk.out _ (Below.setCell (Below.setCell (Below.setCell (Below.setCell (Below.setCell (Below.setCell (k8 hKK) ?_ _) ?_ _) ?_ _) ?_ _) ?_ _) ?_ _)) <;> first | exact Nat.le_refl _ | exact Nat.le_succ _))
        (first | (go_at_call 11; (with_reducible refine (Hpk.out _).mono ?_); rintro e w8 ⟨rfl, rfl⟩) | (go_at_call 10; (with_reducible refine (Hcall.out _ _ ?_ ?_).mono ?_); exact (k8 (by with_reducible first | exact hS | assumption)); (with_reducible first | exact HK3.out | exact HK1.out | exact HK2.out); rintro e w9 ⟨A5, c5, rfl, ho9, hb9⟩; dsimp only [sesVal]; have hKK := Hmk.out w9 (btr (k8 (by with_reducible first | exact hS | assumption)) hb9); try (first | (have hB9 : Bk w9 wo.heap.size zeroC 33 := (by with_reducible exact HZ1.out.later hb9); have y0 := hB9.cell 0 _ rfl; have y1 := hB9.cell 1 _ rfl; have y2 := hB9.cell 2 _ rfl; have y3 := hB9.cell 3 _ rfl; have y4 := hB9.cell 4 _ rfl; have y5 := hB9.cell 5 _ rfl; have f0 := hB9.frozen 0; have f1 := hB9.frozen 1; have f2 := hB9.frozen 2; have f3 := hB9.frozen 3; have f4 := hB9.frozen 4; have f5 := hB9.frozen 5) | (have hB9 : Bk w9 (wo.heap.size + 1) zeroC 33 := (by with_reducible exact HZ2.out.later hb9); have y0 := hB9.cell 0 _ rfl; have y1 := hB9.cell 1 _ rfl; have y2 := hB9.cell 2 _ rfl; have y3 := hB9.cell 3 _ rfl; have y4 := hB9.cell 4 _ rfl; have y5 := hB9.cell 5 _ rfl; have f0 := hB9.frozen 0; have f1 := hB9.frozen 1; have f2 := hB9.frozen 2; have f3 := hB9.frozen 3; have f4 := hB9.frozen 4; have f5 := hB9.frozen 5))))
      all_goals (
        first
          | (have hW := got_put (btr (bdr wo) (k8 hKK)) (show Bk w9 wo.heap.size zeroC 33 from hB9) ho9 (Nat.le_refl _)
             unfold put6 at hW
             clear hKK hb9 HM1 HM2 HM3 HM4 Hmk Hcall ho9 HK1 HK2 HK3 HZ1 HZ2 hB9 y0 y1 y2 y3 y4 y5 f0 f1 f2 f3 f4 f5
             generalize (((((w9.setCell ⟨wo.heap.size, 0, none⟩ (.int .i64 x.step)).setCell ⟨wo.heap.size, 1, none⟩ (.string x.frm.loc)).setCell ⟨wo.heap.size, 2, none⟩ (.string x.frm.dom)).setCell ⟨wo.heap.size, 3, none⟩ (.slice A5 x.rcp.length c5)).setCell ⟨wo.heap.size, 4, none⟩ (.string x.text)).setCell ⟨wo.heap.size, 5, none⟩ (.bool x.large) = W at *)
          | (have hW := got_put (btr (bdr wo) (k8 hKK)) (show Bk w9 (wo.heap.size + 1) zeroC 33 from hB9) ho9 (Nat.le_succ _)
             unfold put6 at hW
             clear hKK hb9 HM1 HM2 HM3 HM4 Hmk Hcall ho9 HK1 HK2 HK3 HZ1 HZ2 hB9 y0 y1 y2 y3 y4 y5 f0 f1 f2 f3 f4 f5
             generalize (((((w9.setCell ⟨wo.heap.size + 1, 0, none⟩ (.int .i64 x.step)).setCell ⟨wo.heap.size + 1, 1, none⟩ (.string x.frm.loc)).setCell ⟨wo.heap.size + 1, 2, none⟩ (.string x.frm.dom)).setCell ⟨wo.heap.size + 1, 3, none⟩ (.slice A5 x.rcp.length c5)).setCell ⟨wo.heap.size + 1, 4, none⟩ (.string x.text)).setCell ⟨wo.heap.size + 1, 5, none⟩ (.bool x.large) = W at *)
          | (have hW := got_new (btr (bdr wo) (k8 hKK)) ho9
             unfold sesCells at hW
             clear hKK hb9 HM1 HM2 HM3 HM4 Hmk Hcall ho9 HK1 HK2 HK3 HZ1 HZ2
             generalize w9.alloc (.cells #[.int .i64 x.step, .string x.frm.loc, .string x.frm.dom, .slice A5 x.rcp.length c5, .string x.text, .bool x.large] 33) = W at *))
      all_goals (
        have Hbf := Lib.hid (btr Hbo.out hW.bel)
        have n0 := hW.at_.bk.cell 0 _ rfl
        have n1 := hW.at_.bk.cell 1 _ rfl
        have n2 := hW.at_.bk.cell 2 _ rfl
        have n3 := hW.at_.bk.cell 3 _ rfl
        have hx6 := (HS2.out.later hW.bel).bk
        have s0 := hx6.cell 0 _ rfl
        have s1 := hx6.cell 1 _ rfl
        have s2 := hx6.cell 2 _ rfl
        have s3 := hx6.cell 3 _ rfl
        clear hW hx6
        go_wp2_with fail
        go_ret
        exact ⟨rfl, Hbf.out⟩)
end Go.Proofs.YtokeblpdaomagaaDoor
