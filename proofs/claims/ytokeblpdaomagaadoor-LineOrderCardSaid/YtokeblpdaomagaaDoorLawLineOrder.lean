/- Who has not said who sends can't say to whom, and so on. -/
import Derived.Test.YtokeblpdaomagaaDoorLmOrdP
import Derived.Test.YtokeblpdaomagaaDoorLmReady
namespace Go.Proofs.YtokeblpdaomagaaDoor
open Go.RowKit
set_option linter.unusedVariables false

theorem k7o {a1 a2 a3 a4 a5 a6 a7 B : Prop} (k : a1 ∧ a2 ∧ a3 ∧ a4 ∧ a5 ∧ a6 ∧ a7 ∧ B) : B := k.2.2.2.2.2.2.2
theorem k6o {a1 a2 a3 a4 a5 a6 B : Prop} (k : a1 ∧ a2 ∧ a3 ∧ a4 ∧ a5 ∧ a6 ∧ B) : B := k.2.2.2.2.2.2
theorem endL_cell (k : Nat) (hk : k < 2) : ([.string lRset, .string lQuit] : List Value)[k]? = some (.string (endL k)) := by
  rcases (show k = 0 ∨ k = 1 by omega) with rfl | rfl <;> rfl
theorem endL_size (k : Nat) (hk : k < 2) : (endL k).size ≤ 300 := by
  rcases (show k = 0 ∨ k = 1 by omega) with rfl | rfl
  · show lRset.size ≤ 300; decide
  · show lQuit.size ≤ 300; decide
theorem ordL_cell (a : Adr) (j : Nat) (hj : j < 3) : ([.string (mkS (mailL ++ angL a)), .string (mkS (rcptU ++ angL a)), .string lData] : List Value)[j]? = some (.string (ordL a j)) := by
  rcases (show j = 0 ∨ j = 1 ∨ j = 2 by omega) with rfl | rfl | rfl <;> rfl
theorem ordN_cell (a : Adr) (j : Nat) (hj : j < 4) : ([.string lLhloA, .string (mkS (mailL ++ angL a)), .string (mkS (rcptU ++ angL a)), .string lNoop] : List Value)[j]? = some (.string (ordN a j)) := by
  rcases (show j = 0 ∨ j = 1 ∨ j = 2 ∨ j = 3 by omega) with rfl | rfl | rfl | rfl <;> rfl
theorem strs_bk {W : World} {q : Nat} {s : ByteArray} {t : TypeId} (h : Bk W q [.string s] t) : StrsAt W (some ⟨q, 0, none⟩) [s] :=
  .inr ⟨_, _, rfl, fun j hj => by
    obtain rfl : j = 0 := by simpa using hj
    exact h.cell 0 _ rfl⟩
set_option linter.unusedSimpArgs false in
set_option maxRecDepth 100000 in
set_option maxHeartbeats 8000000 in
theorem lineOrder_walk (p : Post) (PA : Option Addr) (pc : Nat) (n : Int) (m : Int) (w : World) (hp : PostOk w p PA pc) (hn : (Lit.int .i64 n).wf = true) (hm : w.cell? ⟨0, 0, none⟩ = some (.int .i64 m)) :
    Calls Tryd.prog 3 #[.agg (postCells p PA pc).toArray, .int .i64 n] w fun e w' => e = .returned (.bool true) ∧ Below w.heap.size w w' := by
  have hb1 : Below w.heap.size w (w.alloc (.cells (postCells p PA pc).toArray 26)) := bal (Below.refl _ w) _
  have Hm := Lib.hid hm
  have Hb1 := Lib.hid hb1
  have had := fun W => address_calls p.frm.loc p.frm.dom p.frm.words hp.f1 hp.f2 W
  have hol := ord_line p.frm.loc p.frm.dom
  have hon := ord_next p.frm.loc p.frm.dom
  have hov := ord_vld p.frm.loc p.frm.dom
  have hls := ordL_size p.frm.loc p.frm.dom
  have hns := ordN_size p.frm.loc p.frm.dom
  have hsz := adrOf_size p.frm.loc p.frm.dom
  generalize adrOf p.frm.loc p.frm.dom = a at *
  obtain ⟨al, ad⟩ := a
  have Had := Lib.hid had
  have Hol := Lib.hid hol
  have Hon := Lib.hid hon
  have Hov := Lib.hid hov
  have Hls := Lib.hid hls
  have Hns := Lib.hid hns
  simp only at hsz
  clear hb1 had hm hp hol hon hov hls hns
  simp only [postCells] at Hb1 ⊢
  go_enter Tryd.func3, Tryd.ntmps3
  go_wp2_with fail
  generalize w.alloc (.cells #[.string p.frm.loc, .string p.frm.dom, .string p.frm.words, .string p.rcv.loc, .string p.rcv.dom, .string p.rcv.words, .slice PA p.lines.length pc, .string p.body] 26) = w1 at *
  refine (Had.out w1).mono ?_
  rintro e w2 ⟨rfl, hb2⟩
  have Hb2 := Lib.hid (btr Hb1.out hb2)
  clear hb2
  dsimp only [adrVal]
  have hF := Bk.new w2 [.string al, .string ad] 28
  have hb3 : Below w.heap.size w (w2.alloc (.cells #[.string al, .string ad] 28)) := bal Hb2.out _
  have HF := Lib.hid hF
  have Hb3 := Lib.hid hb3
  clear hF hb3
  go_upto_region 2 with fail
  generalize w2.alloc (.cells #[.string al, .string ad] 28) = w3 at *
  have a0 := HF.out.cell 0 _ rfl
  have hK := Bk.new w3 [.string al] 9
  have hk4 : Below w3.heap.size w3 (w3.alloc (.cells #[.string al] 9)) := bal (Below.refl _ _) _
  have HF4 := Lib.hid (HF.out.later hk4)
  have Hb4 := Lib.hid (btr Hb3.out hk4)
  have HK := Lib.hid hK
  clear hK hk4 HF Hb3
  go_upto_region 3 with fail
  generalize w3.alloc (.cells #[.string al] 9) = w4 at *
  clear a0
  have a0 := HF4.out.cell 0 _ rfl
  have a1 := HF4.out.cell 1 _ rfl
  have e1 := bytes_ang ⟨al, ad⟩ mailL
  have e2 := bytes_ang ⟨al, ad⟩ rcptU
  simp only at e1 e2
  unfold mailL at e1
  unfold rcptU at e2
  have hL := Bk.new w4 [.string (mkS [77, 65, 73, 76, 32, 70, 82, 79, 77, 58] ++ ((⟨#[60]⟩ : ByteArray) ++ al ++ ⟨#[64]⟩ ++ ad ++ ⟨#[62]⟩)), .string (mkS [82, 67, 80, 84, 32, 84, 79, 58] ++ ((⟨#[60]⟩ : ByteArray) ++ al ++ ⟨#[64]⟩ ++ ad ++ ⟨#[62]⟩)), .string ⟨#[68, 65, 84, 65]⟩] 9
  have hb5 : Below w4.heap.size w4 (w4.alloc (.cells #[.string (mkS [77, 65, 73, 76, 32, 70, 82, 79, 77, 58] ++ ((⟨#[60]⟩ : ByteArray) ++ al ++ ⟨#[64]⟩ ++ ad ++ ⟨#[62]⟩)), .string (mkS [82, 67, 80, 84, 32, 84, 79, 58] ++ ((⟨#[60]⟩ : ByteArray) ++ al ++ ⟨#[64]⟩ ++ ad ++ ⟨#[62]⟩)), .string ⟨#[68, 65, 84, 65]⟩] 9)) := bal (Below.refl _ _) _
  rw [show mkS [77, 65, 73, 76, 32, 70, 82, 79, 77, 58] = ⟨#[77, 65, 73, 76, 32, 70, 82, 79, 77, 58]⟩ from rfl, show mkS [82, 67, 80, 84, 32, 84, 79, 58] = ⟨#[82, 67, 80, 84, 32, 84, 79, 58]⟩ from rfl] at hL hb5
  rw [show mkS [77, 65, 73, 76, 32, 70, 82, 79, 77, 58] = ⟨#[77, 65, 73, 76, 32, 70, 82, 79, 77, 58]⟩ from rfl] at e1
  rw [show mkS [82, 67, 80, 84, 32, 84, 79, 58] = ⟨#[82, 67, 80, 84, 32, 84, 79, 58]⟩ from rfl] at e2
  have HL := Lib.hid hL
  have Hb5 := Lib.hid hb5
  have E1 := Lib.hid e1
  have E2 := Lib.hid e2
  clear hL hb5 e1 e2
  go_upto_region 5 with fail
  generalize w4.alloc (.cells #[.string ((⟨#[77, 65, 73, 76, 32, 70, 82, 79, 77, 58]⟩ : ByteArray) ++ ((⟨#[60]⟩ : ByteArray) ++ al ++ ⟨#[64]⟩ ++ ad ++ ⟨#[62]⟩)), .string ((⟨#[82, 67, 80, 84, 32, 84, 79, 58]⟩ : ByteArray) ++ ((⟨#[60]⟩ : ByteArray) ++ al ++ ⟨#[64]⟩ ++ ad ++ ⟨#[62]⟩)), .string ⟨#[68, 65, 84, 65]⟩] 9) = w5 at *
  have hL := HL.out
  rw [E1.out, E2.out] at hL
  have HL := Lib.hid (show Bk w5 w4.heap.size [.string (mkS (mailL ++ angL ⟨al, ad⟩)), .string (mkS (rcptU ++ angL ⟨al, ad⟩)), .string lData] 9 from hL)
  have hcs : Below w5.heap.size w5 (w5.alloc (.cells #[.int .i64 0, .string ⟨#[]⟩, .string ⟨#[]⟩, .slice none 0 0, .string ⟨#[]⟩, .bool false] 33)) := bal (Below.refl _ _) _
  have hS := Bk.new w5 [.int .i64 0, .string ⟨#[]⟩, .string ⟨#[]⟩, .slice none 0 0, .string ⟨#[]⟩, .bool false] 33
  have hlK := HK.out.lt
  have hlL := HL.out.lt
  have hw4 := Hb4.out.size
  have hs45 := Hb5.out.size
  have HK6 := Lib.hid ((HK.out.later Hb5.out).later hcs)
  have HL6 := Lib.hid (HL.out.later hcs)
  have Hb6 := Lib.hid (btr (btr Hb4.out Hb5.out) hcs)
  have HS6 := Lib.hid hS
  clear hL hcs hS a0 a1 HF4 Hb4 HK HL Hb5 E1 E2 Hb1 Hb2
  go_upto_region 6 with fail
  generalize w5.alloc (.cells #[.int .i64 0, .string ⟨#[]⟩, .string ⟨#[]⟩, .slice none 0 0, .string ⟨#[]⟩, .bool false] 33) = w6 at *
  have HsA := Lib.hid (show SesAt w6 w5.heap.size (ordS ⟨al, ad⟩ 0) none 0 from ⟨HS6.out, World.ownsRow_nil _ _ _ _⟩)
  have hsl := HS6.out.lt
  clear HS6
  generalize w5.heap.size = sb at *
  generalize w4.heap.size = qL at *
  generalize w3.heap.size = qK at *
  have hqK : qK < sb := by omega
  have hwsb : w.heap.size ≤ sb := by omega
  go_wp2_with fail
  go_loopw [10] (fun i wr => ∃ (j : Nat) (A : Option Addr) (c : Nat), j ≤ 4 ∧ i = .int .i64 j ∧ SesAt wr sb (ordS ⟨al, ad⟩ j) A c ∧ Below sb w6 wr) (fun i _ => 4 - (intOf i).toNat)
  case atStart => exact ⟨0, none, 0, Nat.zero_le _, rfl, HsA.out, Below.refl _ _⟩
  case round =>
    obtain ⟨j, A, c, hj, rfl, hS, hb⟩ := hrel
    have hKr := HK6.out.below hb (by omega)
    have hLr := HL6.out.below hb (by omega)
    have hbw : Below w.heap.size w wr := Hb6.out.trans (hb.mono (by omega))
    have hmr := cell_later hbw Hm.out
    have hsr := hb.size
    have HS := Lib.hid hS
    have Hb := Lib.hid hb
    have HKr := Lib.hid hKr
    have HLr := Lib.hid hLr
    have Hbw := Lib.hid hbw
    have Hmr := Lib.hid hmr
    clear hS hb hKr hLr hbw hmr
    by_cases hlt : j < 4
    · have hj0 : (0 : Int) ≤ (j : Int) := by omega
      have hj4 : (j : Int) < 4 := by omega
      generalize wr = wo at *
      go_wp2_with fail
      go_loopw [11] (fun i wi => ∃ (k : Nat), k ≤ 3 ∧ i = .int .i64 k ∧ Hid (Below wo.heap.size wo wi)) (fun i _ => 3 - (intOf i).toNat)
      case atStart => exact ⟨0, Nat.zero_le _, rfl, Lib.hid (Below.refl _ _)⟩
      case round =>
        obtain ⟨k, hk, rfl, Hbi⟩ := hrel
        generalize wr = wi at *
        by_cases hkl : k < 3
        · have hk0 : (0 : Int) ≤ (k : Int) := by omega
          have hk3 : (k : Int) < 3 := by omega
          have hlc := (HLr.out.later Hbi.out).cell k _ (ordL_cell ⟨al, ad⟩ k hkl)
          have hls := Hls.out k
          have hcc := Hol.out j k hlt hkl
          have hv := Hov.out j hj
          have hst := ordS_step ⟨al, ad⟩ j
          have hS := HS.out.later Hbi.out
          generalize ordL ⟨al, ad⟩ k = line at *
          generalize ordS ⟨al, ad⟩ j = x at *
          have hd := bdr wi
          have hcall := fun (W : World) (hW : Below wi.drew.heap.size wi.drew W) => line_at x A c line [al] (some ⟨qK, 0, none⟩) 1 m W sb ((hS.later hd).later hW) hv (by omega) (((strs_bk (HKr.out.later Hbi.out)).later hd).later hW) (by simp) (cell_later hW (cell_later hd (cell_later Hbi.out Hmr.out))) (fun h => absurd h hst.2)
          simp only [lineR_cmd x hst.1 hst.2, List.length_cons, List.length_nil, Nat.zero_add] at hcall
          generalize cmdR x line [al] = r at *
          obtain ⟨code, y⟩ := r
          simp only at hcc hcall
          unfold sesVal at hcall
          have s0 := hS.bk.cell 0 _ rfl
          have s1 := hS.bk.cell 1 _ rfl
          have s2 := hS.bk.cell 2 _ rfl
          have s3 := hS.bk.cell 3 _ rfl
          have s4 := hS.bk.cell 4 _ rfl
          have s5 := hS.bk.cell 5 _ rfl
          have hmk := fun (W : World) (hW : Below wi.drew.heap.size wi.drew W) => And.intro (cell_later hW (cell_later hd s0)) (And.intro (cell_later hW (cell_later hd s1)) (And.intro (cell_later hW (cell_later hd s2)) (And.intro (cell_later hW (cell_later hd s3)) (And.intro (cell_later hW (cell_later hd s4)) (And.intro (cell_later hW (cell_later hd s5)) (And.intro (cell_later hW (cell_later hd hlc)) hW))))))
          have Hmk := Lib.hid hmk
          have Hcall := Lib.hid hcall
          have Hcc := Lib.hid hcc
          have hKK := Hmk.out wi.drew (Below.refl _ _)
          have hM1 := Hmk.out (wi.alloc (.cells #[.int .i64 0, .string ⟨#[]⟩, .string ⟨#[]⟩, .slice none 0 0, .string ⟨#[]⟩, .bool false] 33)).drew (bal (Below.refl _ wi.drew) (.cells #[.int .i64 0, .string ⟨#[]⟩, .string ⟨#[]⟩, .slice none 0 0, .string ⟨#[]⟩, .bool false] 33))
          have HM1 := Lib.hid hM1
          have hZ1 : Bk (wi.alloc (.cells #[.int .i64 0, .string ⟨#[]⟩, .string ⟨#[]⟩, .slice none 0 0, .string ⟨#[]⟩, .bool false] 33)).drew wi.heap.size zeroC 33 := (Bk.new wi zeroC 33).later (bdr _)
          have HZ1 := Lib.hid hZ1
          clear hmk hcall hd s0 s1 s2 s3 s4 s5 hlc hcc hv hst hls hS hM1 hZ1
          go_upto_region 12 with fail
          go_region_held3 (fun W => W.cell? ⟨sb, 0, none⟩ = some (.int .i64 x.step) ∧ W.cell? ⟨sb, 1, none⟩ = some (.string x.frm.loc) ∧ W.cell? ⟨sb, 2, none⟩ = some (.string x.frm.dom) ∧ W.cell? ⟨sb, 3, none⟩ = some (.slice A x.rcp.length c) ∧ W.cell? ⟨sb, 4, none⟩ = some (.string x.text) ∧ W.cell? ⟨sb, 5, none⟩ = some (.bool x.large) ∧ W.cell? ⟨qL, k, none⟩ = some (.string line) ∧ Below wi.drew.heap.size wi.drew W) (first | (with_reducible exact hKK) | (with_reducible exact HM1.out) | (with_reducible exact Hmk.out _ (bal (k7o hKK) _)) | ((with_reducible refine Hmk.out _ (Below.setCell (Below.setCell (Below.setCell (Below.setCell (Below.setCell (Below.setCell (k7o hKK) ?_ _) ?_ _) ?_ _) ?_ _) ?_ _) ?_ _)) <;> first | exact Nat.le_refl _ | exact Nat.le_succ _))
            (first | (go_at_call 10; (with_reducible refine (Hcall.out _ ?_).mono ?_); exact (k7o (by with_reducible first | exact hS | assumption)); rintro e w9 ⟨A5, c5, rfl, ho9, hb9⟩; dsimp only [sesVal]; have hKK := Hmk.out w9 (btr (k7o (by with_reducible first | exact hS | assumption)) hb9); try (have hB9 : Bk w9 wi.heap.size zeroC 33 := (by with_reducible exact HZ1.out.later hb9); have y0 := hB9.cell 0 _ rfl; have y1 := hB9.cell 1 _ rfl; have y2 := hB9.cell 2 _ rfl; have y3 := hB9.cell 3 _ rfl; have y4 := hB9.cell 4 _ rfl; have y5 := hB9.cell 5 _ rfl; have f0 := hB9.frozen 0; have f1 := hB9.frozen 1; have f2 := hB9.frozen 2; have f3 := hB9.frozen 3; have f4 := hB9.frozen 4; have f5 := hB9.frozen 5)))
          all_goals (
            first
              | (have hW := (got_put (btr (bdr wi) (k7o hKK)) (show Bk w9 wi.heap.size zeroC 33 from hB9) ho9 (Nat.le_refl _)).bel
                 unfold put6 at hW
                 clear hKK hb9 HM1 Hmk Hcall ho9 HZ1 hB9 y0 y1 y2 y3 y4 y5 f0 f1 f2 f3 f4 f5
                 generalize (((((w9.setCell ⟨wi.heap.size, 0, none⟩ (.int .i64 y.step)).setCell ⟨wi.heap.size, 1, none⟩ (.string y.frm.loc)).setCell ⟨wi.heap.size, 2, none⟩ (.string y.frm.dom)).setCell ⟨wi.heap.size, 3, none⟩ (.slice A5 y.rcp.length c5)).setCell ⟨wi.heap.size, 4, none⟩ (.string y.text)).setCell ⟨wi.heap.size, 5, none⟩ (.bool y.large) = W at *)
              | (have hW := (got_new (btr (bdr wi) (k7o hKK)) ho9).bel
                 unfold sesCells at hW
                 clear hKK hb9 HM1 Hmk Hcall ho9 HZ1
                 generalize w9.alloc (.cells #[.int .i64 y.step, .string y.frm.loc, .string y.frm.dom, .slice A5 y.rcp.length c5, .string y.text, .bool y.large] 33) = W at *))
          all_goals (
            have Hb7 := Lib.hid (btr Hbi.out hW)
            have hcd := Hcc.out
            clear hW
            rcases (show j = 0 ∨ j = 1 ∨ j = 2 ∨ j = 3 by omega) with rfl | rfl | rfl | rfl <;> rcases (show k = 0 ∨ k = 1 ∨ k = 2 by omega) with rfl | rfl | rfl <;> (
              have hce := hcd.trans (by rfl)
              clear hcd
              go_wp2_with fail
              go_roundw
              case rel => first | exact ⟨1, by decide, by go_num, Hb7⟩ | exact ⟨2, by decide, by go_num, Hb7⟩ | exact ⟨3, by decide, by go_num, Hb7⟩
              case measure => simp [intOf]))
        · obtain rfl : k = 3 := by omega
          have hnc := ordN_cell ⟨al, ad⟩ j hlt
          have hns := Hns.out j
          have hon := Hon.out j hlt
          have hv := Hov.out j hj
          have hst := ordS_step ⟨al, ad⟩ j
          have hS := HS.out.later Hbi.out
          have hl0 := (HLr.out.later Hbi.out).cell 0 _ rfl
          have hl1 := (HLr.out.later Hbi.out).cell 1 _ rfl
          have hput := fun (W : World) (A2 : Option Addr) (c2 : Nat) (hb2 : Below wi.heap.size wi W) (ho : W.ownsRow 0 28 2 (.slice A2 (ordS ⟨al, ad⟩ (j + 1)).rcp.length c2) (ordS ⟨al, ad⟩ (j + 1)).rcp.length (adrCells (ordS ⟨al, ad⟩ (j + 1)).rcp)) => (hS.later hb2).put ho
          generalize ordN ⟨al, ad⟩ j = line at *
          generalize ordS ⟨al, ad⟩ j = x at *
          generalize hy : ordS ⟨al, ad⟩ (j + 1) = y at *
          generalize mkS (mailL ++ angL ⟨al, ad⟩) = L0 at *
          generalize mkS (rcptU ++ angL ⟨al, ad⟩) = L1 at *
          have Hy := Lib.hid hy
          have Hput := Lib.hid hput
          have hd := bdr wi
          have hcall := fun (W : World) (hW : Below wi.drew.heap.size wi.drew W) => line_at x A c line [al] (some ⟨qK, 0, none⟩) 1 m W sb ((hS.later hd).later hW) hv (by omega) (((strs_bk (HKr.out.later Hbi.out)).later hd).later hW) (by simp) (cell_later hW (cell_later hd (cell_later Hbi.out Hmr.out))) (fun h => absurd h hst.2)
          simp only [hon, List.length_cons, List.length_nil, Nat.zero_add] at hcall
          unfold sesVal at hcall
          have s0 := hS.bk.cell 0 _ rfl
          have s1 := hS.bk.cell 1 _ rfl
          have s2 := hS.bk.cell 2 _ rfl
          have s3 := hS.bk.cell 3 _ rfl
          have s4 := hS.bk.cell 4 _ rfl
          have s5 := hS.bk.cell 5 _ rfl
          have hmk := fun (W : World) (hW : Below wi.drew.heap.size wi.drew W) => And.intro (cell_later hW (cell_later hd s0)) (And.intro (cell_later hW (cell_later hd s1)) (And.intro (cell_later hW (cell_later hd s2)) (And.intro (cell_later hW (cell_later hd s3)) (And.intro (cell_later hW (cell_later hd s4)) (And.intro (cell_later hW (cell_later hd s5)) (And.intro (cell_later hW (cell_later hd hl0)) (And.intro (cell_later hW (cell_later hd hl1)) hW)))))))
          have Hmk := Lib.hid hmk
          have Hcall := Lib.hid hcall
          have hKK := Hmk.out wi.drew (Below.refl _ _)
          have HS2 := Lib.hid hS
          have hF1 := (Bk.new wi [.string ⟨#[108, 104, 108, 111, 32, 97]⟩, .string L0, .string L1, .string ⟨#[78, 79, 79, 80]⟩] 9)
          have hF2 := hF1.alloc (.cells #[.int .i64 0, .string ⟨#[]⟩, .string ⟨#[]⟩, .slice none 0 0, .string ⟨#[]⟩, .bool false] 33)
          have hF3 := Bk.new (wi.alloc (.cells #[.int .i64 0, .string ⟨#[]⟩, .string ⟨#[]⟩, .slice none 0 0, .string ⟨#[]⟩, .bool false] 33)) [.string ⟨#[108, 104, 108, 111, 32, 97]⟩, .string L0, .string L1, .string ⟨#[78, 79, 79, 80]⟩] 9
          rw [show (wi.alloc (.cells #[.int .i64 0, .string ⟨#[]⟩, .string ⟨#[]⟩, .slice none 0 0, .string ⟨#[]⟩, .bool false] 33)).heap.size = wi.heap.size + 1 by simp] at hF3
          have hC1 := (hF1.later (bdr _)).cell j _ hnc
          have hC2 := (hF2.later (bdr _)).cell j _ hnc
          have hC3 := (hF3.later (bdr _)).cell j _ hnc
          have hZ1 : Bk ((wi.alloc (.cells #[.int .i64 0, .string ⟨#[]⟩, .string ⟨#[]⟩, .slice none 0 0, .string ⟨#[]⟩, .bool false] 33)).alloc (.cells #[.string ⟨#[108, 104, 108, 111, 32, 97]⟩, .string L0, .string L1, .string ⟨#[78, 79, 79, 80]⟩] 9)).drew wi.heap.size zeroC 33 := ((Bk.new wi zeroC 33).alloc _).later (bdr _)
          have hZ2 : Bk ((wi.alloc (.cells #[.string ⟨#[108, 104, 108, 111, 32, 97]⟩, .string L0, .string L1, .string ⟨#[78, 79, 79, 80]⟩] 9)).alloc (.cells #[.int .i64 0, .string ⟨#[]⟩, .string ⟨#[]⟩, .slice none 0 0, .string ⟨#[]⟩, .bool false] 33)).drew (wi.heap.size + 1) zeroC 33 := by
            have h := Bk.new (wi.alloc (.cells #[.string ⟨#[108, 104, 108, 111, 32, 97]⟩, .string L0, .string L1, .string ⟨#[78, 79, 79, 80]⟩] 9)) zeroC 33
            rw [show (wi.alloc (.cells #[.string ⟨#[108, 104, 108, 111, 32, 97]⟩, .string L0, .string L1, .string ⟨#[78, 79, 79, 80]⟩] 9)).heap.size = wi.heap.size + 1 by simp] at h
            exact h.later (bdr _)
          have HZ1 := Lib.hid hZ1
          have HZ2 := Lib.hid hZ2
          have hM1 := Hmk.out (wi.alloc (.cells #[.string ⟨#[108, 104, 108, 111, 32, 97]⟩, .string L0, .string L1, .string ⟨#[78, 79, 79, 80]⟩] 9)).drew (bal (Below.refl _ wi.drew) (.cells #[.string ⟨#[108, 104, 108, 111, 32, 97]⟩, .string L0, .string L1, .string ⟨#[78, 79, 79, 80]⟩] 9))
          have hM2 := Hmk.out (wi.alloc (.cells #[.int .i64 0, .string ⟨#[]⟩, .string ⟨#[]⟩, .slice none 0 0, .string ⟨#[]⟩, .bool false] 33)).drew (bal (Below.refl _ wi.drew) (.cells #[.int .i64 0, .string ⟨#[]⟩, .string ⟨#[]⟩, .slice none 0 0, .string ⟨#[]⟩, .bool false] 33))
          have hM3 := Hmk.out ((wi.alloc (.cells #[.string ⟨#[108, 104, 108, 111, 32, 97]⟩, .string L0, .string L1, .string ⟨#[78, 79, 79, 80]⟩] 9)).alloc (.cells #[.int .i64 0, .string ⟨#[]⟩, .string ⟨#[]⟩, .slice none 0 0, .string ⟨#[]⟩, .bool false] 33)).drew (bal (bal (Below.refl _ wi.drew) (.cells #[.string ⟨#[108, 104, 108, 111, 32, 97]⟩, .string L0, .string L1, .string ⟨#[78, 79, 79, 80]⟩] 9)) (.cells #[.int .i64 0, .string ⟨#[]⟩, .string ⟨#[]⟩, .slice none 0 0, .string ⟨#[]⟩, .bool false] 33))
          have hM4 := Hmk.out ((wi.alloc (.cells #[.int .i64 0, .string ⟨#[]⟩, .string ⟨#[]⟩, .slice none 0 0, .string ⟨#[]⟩, .bool false] 33)).alloc (.cells #[.string ⟨#[108, 104, 108, 111, 32, 97]⟩, .string L0, .string L1, .string ⟨#[78, 79, 79, 80]⟩] 9)).drew (bal (bal (Below.refl _ wi.drew) (.cells #[.int .i64 0, .string ⟨#[]⟩, .string ⟨#[]⟩, .slice none 0 0, .string ⟨#[]⟩, .bool false] 33)) (.cells #[.string ⟨#[108, 104, 108, 111, 32, 97]⟩, .string L0, .string L1, .string ⟨#[78, 79, 79, 80]⟩] 9))
          have HM1 := Lib.hid hM1
          have HM2 := Lib.hid hM2
          have HM3 := Lib.hid hM3
          have HM4 := Lib.hid hM4
          clear hM1 hM2 hM3 hM4 hF1 hF2 hF3 hZ1 hZ2 hmk hcall hd s0 s1 s2 s3 s4 s5 hnc hns hon hv hst hS hl0 hl1 hput hy
          go_upto_region 16 with fail
          refine wp_region_noPanic ?_
          refine wp_region_held_drew (S := (fun W => W.cell? ⟨sb, 0, none⟩ = some (.int .i64 x.step) ∧ W.cell? ⟨sb, 1, none⟩ = some (.string x.frm.loc) ∧ W.cell? ⟨sb, 2, none⟩ = some (.string x.frm.dom) ∧ W.cell? ⟨sb, 3, none⟩ = some (.slice A x.rcp.length c) ∧ W.cell? ⟨sb, 4, none⟩ = some (.string x.text) ∧ W.cell? ⟨sb, 5, none⟩ = some (.bool x.large) ∧ W.cell? ⟨qL, 0, none⟩ = some (.string L0) ∧ W.cell? ⟨qL, 1, none⟩ = some (.string L1) ∧ Below wi.drew.heap.size wi.drew W)) (by kernel_rfl) ?hS_1 (fun hHeld => ?rest_1)
          case hS_1 => (first | (with_reducible exact hKK) | (with_reducible exact HM1.out) | (with_reducible exact HM2.out) | (with_reducible exact HM3.out) | (with_reducible exact HM4.out) | (with_reducible exact Hmk.out _ (bal (k8 hKK) _)) | ((with_reducible refine Hmk.out _ (Below.setCell (Below.setCell (Below.setCell (Below.setCell (Below.setCell (Below.setCell (k8 hKK) ?_ _) ?_ _) ?_ _) ?_ _) ?_ _) ?_ _)) <;> first | exact Nat.le_refl _ | exact Nat.le_succ _))
          refine wpAnyH_take (i := 0) (oi := ?oi_2) (v := ?v_2) ?hi_2 (by kernel_rfl) (by kernel_rfl) (by kernel_rfl) (fun _ _ _ h => h) (Or.inl ⟨?hw_2, ?hy_2⟩) (by assumption) ?rest_2
          case hi_2 => (simp only [List.getElem?_toArray, List.getElem?_cons_zero, List.getElem?_cons_succ]; rfl)
          case hw_2 => rfl
          case hy_2 => (intro w hSw; (try dsimp only at hSw); go_simp; try with_reducible rfl)
          try simp only [Act.put, List.setIfInBounds_toArray, List.set_cons_zero, List.set_cons_succ]
          refine wpAnyH_take (i := 1) (oi := ?oi_3) (v := ?v_3) ?hi_3 (by kernel_rfl) (by kernel_rfl) (by kernel_rfl) (fun _ _ _ h => h) (Or.inl ⟨?hw_3, ?hy_3⟩) (by assumption) ?rest_3
          case hi_3 => (simp only [List.getElem?_toArray, List.getElem?_cons_zero, List.getElem?_cons_succ]; rfl)
          case hw_3 => rfl
          case hy_3 => (intro w hSw; (try dsimp only at hSw); go_simp; try with_reducible rfl)
          try simp only [Act.put, List.setIfInBounds_toArray, List.set_cons_zero, List.set_cons_succ]
          refine wpAnyH_take (i := 2) (oi := ?oi_4) (v := ?v_4) ?hi_4 (by kernel_rfl) (by kernel_rfl) (by kernel_rfl) (fun _ _ _ h => h) (Or.inl ⟨?hw_4, ?hy_4⟩) (by assumption) ?rest_4
          case hi_4 => (simp only [List.getElem?_toArray, List.getElem?_cons_zero, List.getElem?_cons_succ]; rfl)
          case hw_4 => rfl
          case hy_4 => (intro w hSw; (try dsimp only at hSw); go_simp; try with_reducible rfl)
          try simp only [Act.put, List.setIfInBounds_toArray, List.set_cons_zero, List.set_cons_succ]
          refine wpAnyH_take (i := 3) (oi := ?oi_5) (v := ?v_5) ?hi_5 (by kernel_rfl) (by kernel_rfl) (by kernel_rfl) (fun _ _ _ h => h) (Or.inl ⟨?hw_5, ?hy_5⟩) (by assumption) ?rest_5
          case hi_5 => (simp only [List.getElem?_toArray, List.getElem?_cons_zero, List.getElem?_cons_succ]; rfl)
          case hw_5 => rfl
          case hy_5 => (intro w hSw; (try dsimp only at hSw); go_simp; try with_reducible rfl)
          try simp only [Act.put, List.setIfInBounds_toArray, List.set_cons_zero, List.set_cons_succ]
          refine wpAnyH_take (i := 4) (oi := ?oi_6) (v := ?v_6) ?hi_6 (by kernel_rfl) (by kernel_rfl) (by kernel_rfl) (fun _ _ _ h => h) (Or.inl ⟨?hw_6, ?hy_6⟩) (by assumption) ?rest_6
          case hi_6 => (simp only [List.getElem?_toArray, List.getElem?_cons_zero, List.getElem?_cons_succ]; rfl)
          case hw_6 => rfl
          case hy_6 => (intro w hSw; (try dsimp only at hSw); go_simp; try with_reducible rfl)
          try simp only [Act.put, List.setIfInBounds_toArray, List.set_cons_zero, List.set_cons_succ]
          refine wpAnyH_take (i := 5) (oi := ?oi_7) (v := ?v_7) ?hi_7 (by kernel_rfl) (by kernel_rfl) (by kernel_rfl) (fun _ _ _ h => h) (Or.inl ⟨?hw_7, ?hy_7⟩) (by assumption) ?rest_7
          case hi_7 => (simp only [List.getElem?_toArray, List.getElem?_cons_zero, List.getElem?_cons_succ]; rfl)
          case hw_7 => rfl
          case hy_7 => (intro w hSw; (try dsimp only at hSw); go_simp; try with_reducible rfl)
          try simp only [Act.put, List.setIfInBounds_toArray, List.set_cons_zero, List.set_cons_succ]
          refine wpAnyH_take (i := 6) (oi := ?oi_8) (v := ?v_8) ?hi_8 (by kernel_rfl) (by kernel_rfl) (by kernel_rfl) (fun _ _ _ h => h) (Or.inl ⟨?hw_8, ?hy_8⟩) (by assumption) ?rest_8
          case hi_8 => (simp only [List.getElem?_toArray, List.getElem?_cons_zero, List.getElem?_cons_succ]; rfl)
          case hw_8 => rfl
          case hy_8 => (intro w hSw; (try dsimp only at hSw); go_simp; try with_reducible rfl)
          try simp only [Act.put, List.setIfInBounds_toArray, List.set_cons_zero, List.set_cons_succ]
          refine wpAnyH_take (i := 7) (oi := ?oi_9) (v := ?v_9) ?hi_9 (by kernel_rfl) (by kernel_rfl) (by kernel_rfl) (fun _ _ _ h => h) (Or.inl ⟨?hw_9, ?hy_9⟩) (by assumption) ?rest_9
          case hi_9 => (simp only [List.getElem?_toArray, List.getElem?_cons_zero, List.getElem?_cons_succ]; rfl)
          case hw_9 => rfl
          case hy_9 => (intro w hSw; (try dsimp only at hSw); go_simp; try with_reducible rfl)
          try simp only [Act.put, List.setIfInBounds_toArray, List.set_cons_zero, List.set_cons_succ]
          refine wpAnyH_take (i := 9) (oi := ?oi_10) (v := ?v_10) ?hi_10 (by kernel_rfl) (by kernel_rfl) (by kernel_rfl) (fun _ _ _ h => h) (Or.inl ⟨?hw_10, ?hy_10⟩) (by assumption) ?rest_10
          case hi_10 => (simp only [List.getElem?_toArray, List.getElem?_cons_zero, List.getElem?_cons_succ]; rfl)
          case hw_10 => rfl
          case hy_10 => (intro w hSw; (try dsimp only at hSw); go_simp; try with_reducible rfl)
          try simp only [Act.put, List.setIfInBounds_toArray, List.set_cons_zero, List.set_cons_succ]
          refine wpAnyH_ready (rs := [8, 18]) (by kernel_rfl) (by simp) (AllReadyH.cons (o := ?o_8_11) ?ho_8_11 (fun K hK => ?_) (AllReadyH.cons (o := ?o_18_11) ?ho_18_11 (fun K hK => ?_) AllReadyH.nil))
          case ho_8_11 => (simp only [List.getElem?_toArray, List.getElem?_cons_zero, List.getElem?_cons_succ]; rfl)
          case ho_18_11 => (simp only [List.getElem?_toArray, List.getElem?_cons_zero, List.getElem?_cons_succ]; rfl)
          clear hHeld
          focus (go_simp)
          refine hK.out _ _ ?hS_12 (fun hHeld => ?rest_12)
          case hS_12 => ((try dsimp only); first | (with_reducible exact hKK) | (with_reducible exact HM1.out) | (with_reducible exact HM2.out) | (with_reducible exact HM3.out) | (with_reducible exact HM4.out) | (with_reducible exact Hmk.out _ (bal (k8 hKK) _)) | ((with_reducible refine Hmk.out _ (Below.setCell (Below.setCell (Below.setCell (Below.setCell (Below.setCell (Below.setCell (k8 hKK) ?_ _) ?_ _) ?_ _) ?_ _) ?_ _) ?_ _)) <;> first | exact Nat.le_refl _ | exact Nat.le_succ _))
          clear hK K
          try simp only [Act.put, List.setIfInBounds_toArray, List.set_cons_zero, List.set_cons_succ]
          refine wpAnyH_take (i := 10) (oi := ?oi_13) (v := ?v_13) ?hi_13 (by kernel_rfl) (by kernel_rfl) (by kernel_rfl) (fun _ _ _ h => h) (Or.inl ⟨?hw_13, ?hy_13⟩) (by assumption) ?rest_13
          case hi_13 => (simp only [List.getElem?_toArray, List.getElem?_cons_zero, List.getElem?_cons_succ]; rfl)
          case hw_13 => rfl
          case hy_13 => (intro w hSw; (try dsimp only at hSw); go_simp; try with_reducible rfl)
          try simp only [Act.put, List.setIfInBounds_toArray, List.set_cons_zero, List.set_cons_succ]
          refine wpAnyH_ready (rs := [11, 18]) (by kernel_rfl) (by simp) (AllReadyH.cons (o := ?o_11_14) ?ho_11_14 (fun K hK => ?_) (AllReadyH.cons (o := ?o_18_14) ?ho_18_14 (fun K hK => ?_) AllReadyH.nil))
          case ho_11_14 => (simp only [List.getElem?_toArray, List.getElem?_cons_zero, List.getElem?_cons_succ]; rfl)
          case ho_18_14 => (simp only [List.getElem?_toArray, List.getElem?_cons_zero, List.getElem?_cons_succ]; rfl)
          clear hHeld
          focus (go_simp)
          refine hK.out _ _ ?hS_15 (fun hHeld => ?rest_15)
          case hS_15 => ((try dsimp only); first | (with_reducible exact hKK) | (with_reducible exact HM1.out) | (with_reducible exact HM2.out) | (with_reducible exact HM3.out) | (with_reducible exact HM4.out) | (with_reducible exact Hmk.out _ (bal (k8 hKK) _)) | ((with_reducible refine Hmk.out _ (Below.setCell (Below.setCell (Below.setCell (Below.setCell (Below.setCell (Below.setCell (k8 hKK) ?_ _) ?_ _) ?_ _) ?_ _) ?_ _) ?_ _)) <;> first | exact Nat.le_refl _ | exact Nat.le_succ _))
          clear hK K
          try simp only [Act.put, List.setIfInBounds_toArray, List.set_cons_zero, List.set_cons_succ]
          refine wpAnyH_ready (rs := [12, 18]) (by kernel_rfl) (by simp) (AllReadyH.cons (o := ?o_12_16) ?ho_12_16 (fun K hK => ?_) (AllReadyH.cons (o := ?o_18_16) ?ho_18_16 (fun K hK => ?_) AllReadyH.nil))
          case ho_12_16 => (simp only [List.getElem?_toArray, List.getElem?_cons_zero, List.getElem?_cons_succ]; rfl)
          case ho_18_16 => (simp only [List.getElem?_toArray, List.getElem?_cons_zero, List.getElem?_cons_succ]; rfl)
          focus (go_simp)
          focus (first | (go_at_call 10; (with_reducible refine (Hcall.out _ ?_).mono ?_); exact (k8 (by with_reducible first | exact hS | assumption)); rintro e w9 ⟨A5, c5, rfl, ho9, hb9⟩; dsimp only [sesVal]; have hKK := Hmk.out w9 (btr (k8 (by with_reducible first | exact hS | assumption)) hb9); try (first | (have hB9 : Bk w9 wi.heap.size zeroC 33 := (by with_reducible exact HZ1.out.later hb9); have y0 := hB9.cell 0 _ rfl; have y1 := hB9.cell 1 _ rfl; have y2 := hB9.cell 2 _ rfl; have y3 := hB9.cell 3 _ rfl; have y4 := hB9.cell 4 _ rfl; have y5 := hB9.cell 5 _ rfl; have f0 := hB9.frozen 0; have f1 := hB9.frozen 1; have f2 := hB9.frozen 2; have f3 := hB9.frozen 3; have f4 := hB9.frozen 4; have f5 := hB9.frozen 5) | (have hB9 : Bk w9 (wi.heap.size + 1) zeroC 33 := (by with_reducible exact HZ2.out.later hb9); have y0 := hB9.cell 0 _ rfl; have y1 := hB9.cell 1 _ rfl; have y2 := hB9.cell 2 _ rfl; have y3 := hB9.cell 3 _ rfl; have y4 := hB9.cell 4 _ rfl; have y5 := hB9.cell 5 _ rfl; have f0 := hB9.frozen 0; have f1 := hB9.frozen 1; have f2 := hB9.frozen 2; have f3 := hB9.frozen 3; have f4 := hB9.frozen 4; have f5 := hB9.frozen 5))))
          focus (go_wp2_with fail)
          have hOld := hHeld
          clear hHeld
          refine hK.out _ _ ?hS_17 (fun hHeld => ?rest_17)
          case hS_17 => ((try dsimp only); first | (with_reducible exact hKK) | (with_reducible exact HM1.out) | (with_reducible exact HM2.out) | (with_reducible exact HM3.out) | (with_reducible exact HM4.out) | (with_reducible exact Hmk.out _ (bal (k8 hKK) _)) | ((with_reducible refine Hmk.out _ (Below.setCell (Below.setCell (Below.setCell (Below.setCell (Below.setCell (Below.setCell (k8 hKK) ?_ _) ?_ _) ?_ _) ?_ _) ?_ _) ?_ _)) <;> first | exact Nat.le_refl _ | exact Nat.le_succ _))
          clear hK K hOld
          try simp only [Act.put, List.setIfInBounds_toArray, List.set_cons_zero, List.set_cons_succ]
          refine wpAnyH_take (i := 13) (oi := ?oi_18) (v := ?v_18) ?hi_18 (by kernel_rfl) (by kernel_rfl) (by kernel_rfl) (fun _ _ _ h => h) (Or.inl ⟨?hw_18, ?hy_18⟩) (by assumption) ?rest_18
          case hi_18 => (simp only [List.getElem?_toArray, List.getElem?_cons_zero, List.getElem?_cons_succ]; rfl)
          case hw_18 => rfl
          case hy_18 => (intro w hSw; (try dsimp only at hSw); go_simp; try with_reducible rfl)
          try simp only [Act.put, List.setIfInBounds_toArray, List.set_cons_zero, List.set_cons_succ]
          refine wpAnyH_take (i := 14) (oi := ?oi_19) (v := ?v_19) ?hi_19 (by kernel_rfl) (by kernel_rfl) (by kernel_rfl) (fun _ _ _ h => h) (Or.inl ⟨?hw_19, ?hy_19⟩) (by assumption) ?rest_19
          case hi_19 => (simp only [List.getElem?_toArray, List.getElem?_cons_zero, List.getElem?_cons_succ]; rfl)
          case hw_19 => rfl
          case hy_19 => (intro w hSw; (try dsimp only at hSw); go_simp; try with_reducible rfl)
          try simp only [Act.put, List.setIfInBounds_toArray, List.set_cons_zero, List.set_cons_succ]
          refine wpAnyH_take (i := 15) (oi := ?oi_20) (v := ?v_20) ?hi_20 (by kernel_rfl) (by kernel_rfl) (by kernel_rfl) (fun _ _ _ h => h) (Or.inl ⟨?hw_20, ?hy_20⟩) (by assumption) ?rest_20
          case hi_20 => (simp only [List.getElem?_toArray, List.getElem?_cons_zero, List.getElem?_cons_succ]; rfl)
          case hw_20 => rfl
          case hy_20 => (intro w hSw; (try dsimp only at hSw); go_simp; try with_reducible rfl)
          try simp only [Act.put, List.setIfInBounds_toArray, List.set_cons_zero, List.set_cons_succ]
          refine wpAnyH_take (i := 16) (oi := ?oi_21) (v := ?v_21) ?hi_21 (by kernel_rfl) (by kernel_rfl) (by kernel_rfl) (fun _ _ _ h => h) (Or.inl ⟨?hw_21, ?hy_21⟩) (by assumption) ?rest_21
          case hi_21 => (simp only [List.getElem?_toArray, List.getElem?_cons_zero, List.getElem?_cons_succ]; rfl)
          case hw_21 => rfl
          case hy_21 => (intro w hSw; (try dsimp only at hSw); go_simp; try with_reducible rfl)
          try simp only [Act.put, List.setIfInBounds_toArray, List.set_cons_zero, List.set_cons_succ]
          refine wpAnyH_take (i := 17) (oi := ?oi_22) (v := ?v_22) ?hi_22 (by kernel_rfl) (by kernel_rfl) (by kernel_rfl) (fun _ _ _ h => h) (Or.inl ⟨?hw_22, ?hy_22⟩) (by assumption) ?rest_22
          case hi_22 => (simp only [List.getElem?_toArray, List.getElem?_cons_zero, List.getElem?_cons_succ]; rfl)
          case hw_22 => rfl
          case hy_22 => (intro w hSw; (try dsimp only at hSw); go_simp; try with_reducible rfl)
          try simp only [Act.put, List.setIfInBounds_toArray, List.set_cons_zero, List.set_cons_succ]
          refine wpAnyH_ready (rs := [18]) (by kernel_rfl) (by simp) (AllReadyH.cons (o := ?o_18_23) ?ho_18_23 (fun K hK => ?_) AllReadyH.nil)
          case ho_18_23 => (simp only [List.getElem?_toArray, List.getElem?_cons_zero, List.getElem?_cons_succ]; rfl)
          clear hHeld
          focus (go_simp)
          refine hK.out _ _ ?hS_24 (fun hHeld => ?rest_24)
          case hS_24 => ((try dsimp only); first | (with_reducible exact hKK) | (with_reducible exact HM1.out) | (with_reducible exact HM2.out) | (with_reducible exact HM3.out) | (with_reducible exact HM4.out) | (with_reducible exact Hmk.out _ (bal (k8 hKK) _)) | ((with_reducible refine Hmk.out _ (Below.setCell (Below.setCell (Below.setCell (Below.setCell (Below.setCell (Below.setCell (k8 hKK) ?_ _) ?_ _) ?_ _) ?_ _) ?_ _) ?_ _)) <;> first | exact Nat.le_refl _ | exact Nat.le_succ _))
          clear hK K
          try simp only [Act.put, List.setIfInBounds_toArray, List.set_cons_zero, List.set_cons_succ]
          refine wpAnyH_ready (rs := [19]) (by kernel_rfl) (by simp) (AllReadyH.cons (o := ?o_19_25) ?ho_19_25 (fun K hK => ?_) AllReadyH.nil)
          case ho_19_25 => (simp only [List.getElem?_toArray, List.getElem?_cons_zero, List.getElem?_cons_succ]; rfl)
          clear hHeld
          focus (go_simp)
          refine hK.out _ _ ?hS_26 (fun hHeld => ?rest_26)
          case hS_26 => ((try dsimp only); first | (with_reducible exact hKK) | (with_reducible exact HM1.out) | (with_reducible exact HM2.out) | (with_reducible exact HM3.out) | (with_reducible exact HM4.out) | (with_reducible exact Hmk.out _ (bal (k8 hKK) _)) | ((with_reducible refine Hmk.out _ (Below.setCell (Below.setCell (Below.setCell (Below.setCell (Below.setCell (Below.setCell (k8 hKK) ?_ _) ?_ _) ?_ _) ?_ _) ?_ _) ?_ _)) <;> first | exact Nat.le_refl _ | exact Nat.le_succ _))
          clear hK K
          try simp only [Act.put, List.setIfInBounds_toArray, List.set_cons_zero, List.set_cons_succ]
          refine wpAnyH_take (i := 20) (oi := ?oi_27) (v := ?v_27) ?hi_27 (by kernel_rfl) (by kernel_rfl) (by kernel_rfl) (fun _ _ _ h => h) (Or.inl ⟨?hw_27, ?hy_27⟩) (by assumption) ?rest_27
          case hi_27 => (simp only [List.getElem?_toArray, List.getElem?_cons_zero, List.getElem?_cons_succ]; rfl)
          case hw_27 => rfl
          case hy_27 => (intro w hSw; (try dsimp only at hSw); go_simp; try with_reducible rfl)
          try simp only [Act.put, List.setIfInBounds_toArray, List.set_cons_zero, List.set_cons_succ]
          refine wpAnyH_take (i := 21) (oi := ?oi_28) (v := ?v_28) ?hi_28 (by kernel_rfl) (by kernel_rfl) (by kernel_rfl) (fun _ _ _ h => h) (Or.inl ⟨?hw_28, ?hy_28⟩) (by assumption) ?rest_28
          case hi_28 => (simp only [List.getElem?_toArray, List.getElem?_cons_zero, List.getElem?_cons_succ]; rfl)
          case hw_28 => rfl
          case hy_28 => (intro w hSw; (try dsimp only at hSw); go_simp; try with_reducible rfl)
          try simp only [Act.put, List.setIfInBounds_toArray, List.set_cons_zero, List.set_cons_succ]
          refine wpAnyH_take (i := 22) (oi := ?oi_29) (v := ?v_29) ?hi_29 (by kernel_rfl) (by kernel_rfl) (by kernel_rfl) (fun _ _ _ h => h) (Or.inl ⟨?hw_29, ?hy_29⟩) (by assumption) ?rest_29
          case hi_29 => (simp only [List.getElem?_toArray, List.getElem?_cons_zero, List.getElem?_cons_succ]; rfl)
          case hw_29 => rfl
          case hy_29 => (intro w hSw; (try dsimp only at hSw); go_simp; try with_reducible rfl)
          try simp only [Act.put, List.setIfInBounds_toArray, List.set_cons_zero, List.set_cons_succ]
          refine wpAnyH_done (by kernel_rfl) ?_ _
          refine NoPanic.normal ?_
          rotate_left
          clear hHeld
          focus (go_simp)
          refine hK.out _ _ ?hS_30 (fun hHeld => ?rest_30)
          case hS_30 => ((try dsimp only); first | (with_reducible exact hKK) | (with_reducible exact HM1.out) | (with_reducible exact HM2.out) | (with_reducible exact HM3.out) | (with_reducible exact HM4.out) | (with_reducible exact Hmk.out _ (bal (k8 hKK) _)) | ((with_reducible refine Hmk.out _ (Below.setCell (Below.setCell (Below.setCell (Below.setCell (Below.setCell (Below.setCell (k8 hKK) ?_ _) ?_ _) ?_ _) ?_ _) ?_ _) ?_ _)) <;> first | exact Nat.le_refl _ | exact Nat.le_succ _))
          clear hK K
          try simp only [Act.put, List.setIfInBounds_toArray, List.set_cons_zero, List.set_cons_succ]
          refine wpAnyH_ready (rs := [12]) (by kernel_rfl) (by simp) (AllReadyH.cons (o := ?o_12_31) ?ho_12_31 (fun K hK => ?_) AllReadyH.nil)
          case ho_12_31 => (simp only [List.getElem?_toArray, List.getElem?_cons_zero, List.getElem?_cons_succ]; rfl)
          focus (go_simp)
          focus (first | (go_at_call 10; (with_reducible refine (Hcall.out _ ?_).mono ?_); exact (k8 (by with_reducible first | exact hS | assumption)); rintro e w9 ⟨A5, c5, rfl, ho9, hb9⟩; dsimp only [sesVal]; have hKK := Hmk.out w9 (btr (k8 (by with_reducible first | exact hS | assumption)) hb9); try (first | (have hB9 : Bk w9 wi.heap.size zeroC 33 := (by with_reducible exact HZ1.out.later hb9); have y0 := hB9.cell 0 _ rfl; have y1 := hB9.cell 1 _ rfl; have y2 := hB9.cell 2 _ rfl; have y3 := hB9.cell 3 _ rfl; have y4 := hB9.cell 4 _ rfl; have y5 := hB9.cell 5 _ rfl; have f0 := hB9.frozen 0; have f1 := hB9.frozen 1; have f2 := hB9.frozen 2; have f3 := hB9.frozen 3; have f4 := hB9.frozen 4; have f5 := hB9.frozen 5) | (have hB9 : Bk w9 (wi.heap.size + 1) zeroC 33 := (by with_reducible exact HZ2.out.later hb9); have y0 := hB9.cell 0 _ rfl; have y1 := hB9.cell 1 _ rfl; have y2 := hB9.cell 2 _ rfl; have y3 := hB9.cell 3 _ rfl; have y4 := hB9.cell 4 _ rfl; have y5 := hB9.cell 5 _ rfl; have f0 := hB9.frozen 0; have f1 := hB9.frozen 1; have f2 := hB9.frozen 2; have f3 := hB9.frozen 3; have f4 := hB9.frozen 4; have f5 := hB9.frozen 5))))
          focus (go_wp2_with fail)
          have hOld := hHeld
          clear hHeld
          refine hK.out _ _ ?hS_32 (fun hHeld => ?rest_32)
          case hS_32 => ((try dsimp only); first | (with_reducible exact hKK) | (with_reducible exact HM1.out) | (with_reducible exact HM2.out) | (with_reducible exact HM3.out) | (with_reducible exact HM4.out) | (with_reducible exact Hmk.out _ (bal (k8 hKK) _)) | ((with_reducible refine Hmk.out _ (Below.setCell (Below.setCell (Below.setCell (Below.setCell (Below.setCell (Below.setCell (k8 hKK) ?_ _) ?_ _) ?_ _) ?_ _) ?_ _) ?_ _)) <;> first | exact Nat.le_refl _ | exact Nat.le_succ _))
          clear hK K hOld
          try simp only [Act.put, List.setIfInBounds_toArray, List.set_cons_zero, List.set_cons_succ]
          refine wpAnyH_take (i := 13) (oi := ?oi_33) (v := ?v_33) ?hi_33 (by kernel_rfl) (by kernel_rfl) (by kernel_rfl) (fun _ _ _ h => h) (Or.inl ⟨?hw_33, ?hy_33⟩) (by assumption) ?rest_33
          case hi_33 => (simp only [List.getElem?_toArray, List.getElem?_cons_zero, List.getElem?_cons_succ]; rfl)
          case hw_33 => rfl
          case hy_33 => (intro w hSw; (try dsimp only at hSw); go_simp; try with_reducible rfl)
          try simp only [Act.put, List.setIfInBounds_toArray, List.set_cons_zero, List.set_cons_succ]
          refine wpAnyH_take (i := 14) (oi := ?oi_34) (v := ?v_34) ?hi_34 (by kernel_rfl) (by kernel_rfl) (by kernel_rfl) (fun _ _ _ h => h) (Or.inl ⟨?hw_34, ?hy_34⟩) (by assumption) ?rest_34
          case hi_34 => (simp only [List.getElem?_toArray, List.getElem?_cons_zero, List.getElem?_cons_succ]; rfl)
          case hw_34 => rfl
          case hy_34 => (intro w hSw; (try dsimp only at hSw); go_simp; try with_reducible rfl)
          try simp only [Act.put, List.setIfInBounds_toArray, List.set_cons_zero, List.set_cons_succ]
          refine wpAnyH_take (i := 15) (oi := ?oi_35) (v := ?v_35) ?hi_35 (by kernel_rfl) (by kernel_rfl) (by kernel_rfl) (fun _ _ _ h => h) (Or.inl ⟨?hw_35, ?hy_35⟩) (by assumption) ?rest_35
          case hi_35 => (simp only [List.getElem?_toArray, List.getElem?_cons_zero, List.getElem?_cons_succ]; rfl)
          case hw_35 => rfl
          case hy_35 => (intro w hSw; (try dsimp only at hSw); go_simp; try with_reducible rfl)
          try simp only [Act.put, List.setIfInBounds_toArray, List.set_cons_zero, List.set_cons_succ]
          refine wpAnyH_take (i := 16) (oi := ?oi_36) (v := ?v_36) ?hi_36 (by kernel_rfl) (by kernel_rfl) (by kernel_rfl) (fun _ _ _ h => h) (Or.inl ⟨?hw_36, ?hy_36⟩) (by assumption) ?rest_36
          case hi_36 => (simp only [List.getElem?_toArray, List.getElem?_cons_zero, List.getElem?_cons_succ]; rfl)
          case hw_36 => rfl
          case hy_36 => (intro w hSw; (try dsimp only at hSw); go_simp; try with_reducible rfl)
          try simp only [Act.put, List.setIfInBounds_toArray, List.set_cons_zero, List.set_cons_succ]
          refine wpAnyH_take (i := 17) (oi := ?oi_37) (v := ?v_37) ?hi_37 (by kernel_rfl) (by kernel_rfl) (by kernel_rfl) (fun _ _ _ h => h) (Or.inl ⟨?hw_37, ?hy_37⟩) (by assumption) ?rest_37
          case hi_37 => (simp only [List.getElem?_toArray, List.getElem?_cons_zero, List.getElem?_cons_succ]; rfl)
          case hw_37 => rfl
          case hy_37 => (intro w hSw; (try dsimp only at hSw); go_simp; try with_reducible rfl)
          try simp only [Act.put, List.setIfInBounds_toArray, List.set_cons_zero, List.set_cons_succ]
          refine wpAnyH_ready (rs := [19]) (by kernel_rfl) (by simp) (AllReadyH.cons (o := ?o_19_38) ?ho_19_38 (fun K hK => ?_) AllReadyH.nil)
          case ho_19_38 => (simp only [List.getElem?_toArray, List.getElem?_cons_zero, List.getElem?_cons_succ]; rfl)
          clear hHeld
          focus (go_simp)
          refine hK.out _ _ ?hS_39 (fun hHeld => ?rest_39)
          case hS_39 => ((try dsimp only); first | (with_reducible exact hKK) | (with_reducible exact HM1.out) | (with_reducible exact HM2.out) | (with_reducible exact HM3.out) | (with_reducible exact HM4.out) | (with_reducible exact Hmk.out _ (bal (k8 hKK) _)) | ((with_reducible refine Hmk.out _ (Below.setCell (Below.setCell (Below.setCell (Below.setCell (Below.setCell (Below.setCell (k8 hKK) ?_ _) ?_ _) ?_ _) ?_ _) ?_ _) ?_ _)) <;> first | exact Nat.le_refl _ | exact Nat.le_succ _))
          clear hK K
          try simp only [Act.put, List.setIfInBounds_toArray, List.set_cons_zero, List.set_cons_succ]
          refine wpAnyH_take (i := 20) (oi := ?oi_40) (v := ?v_40) ?hi_40 (by kernel_rfl) (by kernel_rfl) (by kernel_rfl) (fun _ _ _ h => h) (Or.inl ⟨?hw_40, ?hy_40⟩) (by assumption) ?rest_40
          case hi_40 => (simp only [List.getElem?_toArray, List.getElem?_cons_zero, List.getElem?_cons_succ]; rfl)
          case hw_40 => rfl
          case hy_40 => (intro w hSw; (try dsimp only at hSw); go_simp; try with_reducible rfl)
          try simp only [Act.put, List.setIfInBounds_toArray, List.set_cons_zero, List.set_cons_succ]
          refine wpAnyH_take (i := 21) (oi := ?oi_41) (v := ?v_41) ?hi_41 (by kernel_rfl) (by kernel_rfl) (by kernel_rfl) (fun _ _ _ h => h) (Or.inl ⟨?hw_41, ?hy_41⟩) (by assumption) ?rest_41
          case hi_41 => (simp only [List.getElem?_toArray, List.getElem?_cons_zero, List.getElem?_cons_succ]; rfl)
          case hw_41 => rfl
          case hy_41 => (intro w hSw; (try dsimp only at hSw); go_simp; try with_reducible rfl)
          try simp only [Act.put, List.setIfInBounds_toArray, List.set_cons_zero, List.set_cons_succ]
          refine wpAnyH_take (i := 22) (oi := ?oi_42) (v := ?v_42) ?hi_42 (by kernel_rfl) (by kernel_rfl) (by kernel_rfl) (fun _ _ _ h => h) (Or.inl ⟨?hw_42, ?hy_42⟩) (by assumption) ?rest_42
          case hi_42 => (simp only [List.getElem?_toArray, List.getElem?_cons_zero, List.getElem?_cons_succ]; rfl)
          case hw_42 => rfl
          case hy_42 => (intro w hSw; (try dsimp only at hSw); go_simp; try with_reducible rfl)
          try simp only [Act.put, List.setIfInBounds_toArray, List.set_cons_zero, List.set_cons_succ]
          refine wpAnyH_done (by kernel_rfl) ?_ _
          refine NoPanic.normal ?_
          rotate_left
          clear hHeld
          focus (go_simp)
          refine hK.out _ _ ?hS_43 (fun hHeld => ?rest_43)
          case hS_43 => ((try dsimp only); first | (with_reducible exact hKK) | (with_reducible exact HM1.out) | (with_reducible exact HM2.out) | (with_reducible exact HM3.out) | (with_reducible exact HM4.out) | (with_reducible exact Hmk.out _ (bal (k8 hKK) _)) | ((with_reducible refine Hmk.out _ (Below.setCell (Below.setCell (Below.setCell (Below.setCell (Below.setCell (Below.setCell (k8 hKK) ?_ _) ?_ _) ?_ _) ?_ _) ?_ _) ?_ _)) <;> first | exact Nat.le_refl _ | exact Nat.le_succ _))
          clear hK K
          try simp only [Act.put, List.setIfInBounds_toArray, List.set_cons_zero, List.set_cons_succ]
          refine wpAnyH_ready (rs := [11]) (by kernel_rfl) (by simp) (AllReadyH.cons (o := ?o_11_44) ?ho_11_44 (fun K hK => ?_) AllReadyH.nil)
          case ho_11_44 => (simp only [List.getElem?_toArray, List.getElem?_cons_zero, List.getElem?_cons_succ]; rfl)
          clear hHeld
          focus (go_simp)
          refine hK.out _ _ ?hS_45 (fun hHeld => ?rest_45)
          case hS_45 => ((try dsimp only); first | (with_reducible exact hKK) | (with_reducible exact HM1.out) | (with_reducible exact HM2.out) | (with_reducible exact HM3.out) | (with_reducible exact HM4.out) | (with_reducible exact Hmk.out _ (bal (k8 hKK) _)) | ((with_reducible refine Hmk.out _ (Below.setCell (Below.setCell (Below.setCell (Below.setCell (Below.setCell (Below.setCell (k8 hKK) ?_ _) ?_ _) ?_ _) ?_ _) ?_ _) ?_ _)) <;> first | exact Nat.le_refl _ | exact Nat.le_succ _))
          clear hK K
          try simp only [Act.put, List.setIfInBounds_toArray, List.set_cons_zero, List.set_cons_succ]
          refine wpAnyH_ready (rs := [12]) (by kernel_rfl) (by simp) (AllReadyH.cons (o := ?o_12_46) ?ho_12_46 (fun K hK => ?_) AllReadyH.nil)
          case ho_12_46 => (simp only [List.getElem?_toArray, List.getElem?_cons_zero, List.getElem?_cons_succ]; rfl)
          focus (go_simp)
          focus (first | (go_at_call 10; (with_reducible refine (Hcall.out _ ?_).mono ?_); exact (k8 (by with_reducible first | exact hS | assumption)); rintro e w9 ⟨A5, c5, rfl, ho9, hb9⟩; dsimp only [sesVal]; have hKK := Hmk.out w9 (btr (k8 (by with_reducible first | exact hS | assumption)) hb9); try (first | (have hB9 : Bk w9 wi.heap.size zeroC 33 := (by with_reducible exact HZ1.out.later hb9); have y0 := hB9.cell 0 _ rfl; have y1 := hB9.cell 1 _ rfl; have y2 := hB9.cell 2 _ rfl; have y3 := hB9.cell 3 _ rfl; have y4 := hB9.cell 4 _ rfl; have y5 := hB9.cell 5 _ rfl; have f0 := hB9.frozen 0; have f1 := hB9.frozen 1; have f2 := hB9.frozen 2; have f3 := hB9.frozen 3; have f4 := hB9.frozen 4; have f5 := hB9.frozen 5) | (have hB9 : Bk w9 (wi.heap.size + 1) zeroC 33 := (by with_reducible exact HZ2.out.later hb9); have y0 := hB9.cell 0 _ rfl; have y1 := hB9.cell 1 _ rfl; have y2 := hB9.cell 2 _ rfl; have y3 := hB9.cell 3 _ rfl; have y4 := hB9.cell 4 _ rfl; have y5 := hB9.cell 5 _ rfl; have f0 := hB9.frozen 0; have f1 := hB9.frozen 1; have f2 := hB9.frozen 2; have f3 := hB9.frozen 3; have f4 := hB9.frozen 4; have f5 := hB9.frozen 5))))
          focus (go_wp2_with fail)
          have hOld := hHeld
          clear hHeld
          refine hK.out _ _ ?hS_47 (fun hHeld => ?rest_47)
          case hS_47 => ((try dsimp only); first | (with_reducible exact hKK) | (with_reducible exact HM1.out) | (with_reducible exact HM2.out) | (with_reducible exact HM3.out) | (with_reducible exact HM4.out) | (with_reducible exact Hmk.out _ (bal (k8 hKK) _)) | ((with_reducible refine Hmk.out _ (Below.setCell (Below.setCell (Below.setCell (Below.setCell (Below.setCell (Below.setCell (k8 hKK) ?_ _) ?_ _) ?_ _) ?_ _) ?_ _) ?_ _)) <;> first | exact Nat.le_refl _ | exact Nat.le_succ _))
          clear hK K hOld
          try simp only [Act.put, List.setIfInBounds_toArray, List.set_cons_zero, List.set_cons_succ]
          refine wpAnyH_take (i := 13) (oi := ?oi_48) (v := ?v_48) ?hi_48 (by kernel_rfl) (by kernel_rfl) (by kernel_rfl) (fun _ _ _ h => h) (Or.inl ⟨?hw_48, ?hy_48⟩) (by assumption) ?rest_48
          case hi_48 => (simp only [List.getElem?_toArray, List.getElem?_cons_zero, List.getElem?_cons_succ]; rfl)
          case hw_48 => rfl
          case hy_48 => (intro w hSw; (try dsimp only at hSw); go_simp; try with_reducible rfl)
          try simp only [Act.put, List.setIfInBounds_toArray, List.set_cons_zero, List.set_cons_succ]
          refine wpAnyH_take (i := 14) (oi := ?oi_49) (v := ?v_49) ?hi_49 (by kernel_rfl) (by kernel_rfl) (by kernel_rfl) (fun _ _ _ h => h) (Or.inl ⟨?hw_49, ?hy_49⟩) (by assumption) ?rest_49
          case hi_49 => (simp only [List.getElem?_toArray, List.getElem?_cons_zero, List.getElem?_cons_succ]; rfl)
          case hw_49 => rfl
          case hy_49 => (intro w hSw; (try dsimp only at hSw); go_simp; try with_reducible rfl)
          try simp only [Act.put, List.setIfInBounds_toArray, List.set_cons_zero, List.set_cons_succ]
          refine wpAnyH_take (i := 15) (oi := ?oi_50) (v := ?v_50) ?hi_50 (by kernel_rfl) (by kernel_rfl) (by kernel_rfl) (fun _ _ _ h => h) (Or.inl ⟨?hw_50, ?hy_50⟩) (by assumption) ?rest_50
          case hi_50 => (simp only [List.getElem?_toArray, List.getElem?_cons_zero, List.getElem?_cons_succ]; rfl)
          case hw_50 => rfl
          case hy_50 => (intro w hSw; (try dsimp only at hSw); go_simp; try with_reducible rfl)
          try simp only [Act.put, List.setIfInBounds_toArray, List.set_cons_zero, List.set_cons_succ]
          refine wpAnyH_take (i := 16) (oi := ?oi_51) (v := ?v_51) ?hi_51 (by kernel_rfl) (by kernel_rfl) (by kernel_rfl) (fun _ _ _ h => h) (Or.inl ⟨?hw_51, ?hy_51⟩) (by assumption) ?rest_51
          case hi_51 => (simp only [List.getElem?_toArray, List.getElem?_cons_zero, List.getElem?_cons_succ]; rfl)
          case hw_51 => rfl
          case hy_51 => (intro w hSw; (try dsimp only at hSw); go_simp; try with_reducible rfl)
          try simp only [Act.put, List.setIfInBounds_toArray, List.set_cons_zero, List.set_cons_succ]
          refine wpAnyH_take (i := 17) (oi := ?oi_52) (v := ?v_52) ?hi_52 (by kernel_rfl) (by kernel_rfl) (by kernel_rfl) (fun _ _ _ h => h) (Or.inl ⟨?hw_52, ?hy_52⟩) (by assumption) ?rest_52
          case hi_52 => (simp only [List.getElem?_toArray, List.getElem?_cons_zero, List.getElem?_cons_succ]; rfl)
          case hw_52 => rfl
          case hy_52 => (intro w hSw; (try dsimp only at hSw); go_simp; try with_reducible rfl)
          try simp only [Act.put, List.setIfInBounds_toArray, List.set_cons_zero, List.set_cons_succ]
          refine wpAnyH_ready (rs := [19]) (by kernel_rfl) (by simp) (AllReadyH.cons (o := ?o_19_53) ?ho_19_53 (fun K hK => ?_) AllReadyH.nil)
          case ho_19_53 => (simp only [List.getElem?_toArray, List.getElem?_cons_zero, List.getElem?_cons_succ]; rfl)
          clear hHeld
          focus (go_simp)
          refine hK.out _ _ ?hS_54 (fun hHeld => ?rest_54)
          case hS_54 => ((try dsimp only); first | (with_reducible exact hKK) | (with_reducible exact HM1.out) | (with_reducible exact HM2.out) | (with_reducible exact HM3.out) | (with_reducible exact HM4.out) | (with_reducible exact Hmk.out _ (bal (k8 hKK) _)) | ((with_reducible refine Hmk.out _ (Below.setCell (Below.setCell (Below.setCell (Below.setCell (Below.setCell (Below.setCell (k8 hKK) ?_ _) ?_ _) ?_ _) ?_ _) ?_ _) ?_ _)) <;> first | exact Nat.le_refl _ | exact Nat.le_succ _))
          clear hK K
          try simp only [Act.put, List.setIfInBounds_toArray, List.set_cons_zero, List.set_cons_succ]
          refine wpAnyH_take (i := 20) (oi := ?oi_55) (v := ?v_55) ?hi_55 (by kernel_rfl) (by kernel_rfl) (by kernel_rfl) (fun _ _ _ h => h) (Or.inl ⟨?hw_55, ?hy_55⟩) (by assumption) ?rest_55
          case hi_55 => (simp only [List.getElem?_toArray, List.getElem?_cons_zero, List.getElem?_cons_succ]; rfl)
          case hw_55 => rfl
          case hy_55 => (intro w hSw; (try dsimp only at hSw); go_simp; try with_reducible rfl)
          try simp only [Act.put, List.setIfInBounds_toArray, List.set_cons_zero, List.set_cons_succ]
          refine wpAnyH_take (i := 21) (oi := ?oi_56) (v := ?v_56) ?hi_56 (by kernel_rfl) (by kernel_rfl) (by kernel_rfl) (fun _ _ _ h => h) (Or.inl ⟨?hw_56, ?hy_56⟩) (by assumption) ?rest_56
          case hi_56 => (simp only [List.getElem?_toArray, List.getElem?_cons_zero, List.getElem?_cons_succ]; rfl)
          case hw_56 => rfl
          case hy_56 => (intro w hSw; (try dsimp only at hSw); go_simp; try with_reducible rfl)
          try simp only [Act.put, List.setIfInBounds_toArray, List.set_cons_zero, List.set_cons_succ]
          refine wpAnyH_take (i := 22) (oi := ?oi_57) (v := ?v_57) ?hi_57 (by kernel_rfl) (by kernel_rfl) (by kernel_rfl) (fun _ _ _ h => h) (Or.inl ⟨?hw_57, ?hy_57⟩) (by assumption) ?rest_57
          case hi_57 => (simp only [List.getElem?_toArray, List.getElem?_cons_zero, List.getElem?_cons_succ]; rfl)
          case hw_57 => rfl
          case hy_57 => (intro w hSw; (try dsimp only at hSw); go_simp; try with_reducible rfl)
          try simp only [Act.put, List.setIfInBounds_toArray, List.set_cons_zero, List.set_cons_succ]
          refine wpAnyH_done (by kernel_rfl) ?_ _
          refine NoPanic.normal ?_
          rotate_left
          clear hHeld
          focus (go_simp)
          refine hK.out _ _ ?hS_58 (fun hHeld => ?rest_58)
          case hS_58 => ((try dsimp only); first | (with_reducible exact hKK) | (with_reducible exact HM1.out) | (with_reducible exact HM2.out) | (with_reducible exact HM3.out) | (with_reducible exact HM4.out) | (with_reducible exact Hmk.out _ (bal (k8 hKK) _)) | ((with_reducible refine Hmk.out _ (Below.setCell (Below.setCell (Below.setCell (Below.setCell (Below.setCell (Below.setCell (k8 hKK) ?_ _) ?_ _) ?_ _) ?_ _) ?_ _) ?_ _)) <;> first | exact Nat.le_refl _ | exact Nat.le_succ _))
          clear hK K
          try simp only [Act.put, List.setIfInBounds_toArray, List.set_cons_zero, List.set_cons_succ]
          refine wpAnyH_ready (rs := [8]) (by kernel_rfl) (by simp) (AllReadyH.cons (o := ?o_8_59) ?ho_8_59 (fun K hK => ?_) AllReadyH.nil)
          case ho_8_59 => (simp only [List.getElem?_toArray, List.getElem?_cons_zero, List.getElem?_cons_succ]; rfl)
          clear hHeld
          focus (go_simp)
          refine hK.out _ _ ?hS_60 (fun hHeld => ?rest_60)
          case hS_60 => ((try dsimp only); first | (with_reducible exact hKK) | (with_reducible exact HM1.out) | (with_reducible exact HM2.out) | (with_reducible exact HM3.out) | (with_reducible exact HM4.out) | (with_reducible exact Hmk.out _ (bal (k8 hKK) _)) | ((with_reducible refine Hmk.out _ (Below.setCell (Below.setCell (Below.setCell (Below.setCell (Below.setCell (Below.setCell (k8 hKK) ?_ _) ?_ _) ?_ _) ?_ _) ?_ _) ?_ _)) <;> first | exact Nat.le_refl _ | exact Nat.le_succ _))
          clear hK K
          try simp only [Act.put, List.setIfInBounds_toArray, List.set_cons_zero, List.set_cons_succ]
          refine wpAnyH_take (i := 10) (oi := ?oi_61) (v := ?v_61) ?hi_61 (by kernel_rfl) (by kernel_rfl) (by kernel_rfl) (fun _ _ _ h => h) (Or.inl ⟨?hw_61, ?hy_61⟩) (by assumption) ?rest_61
          case hi_61 => (simp only [List.getElem?_toArray, List.getElem?_cons_zero, List.getElem?_cons_succ]; rfl)
          case hw_61 => rfl
          case hy_61 => (intro w hSw; (try dsimp only at hSw); go_simp; try with_reducible rfl)
          try simp only [Act.put, List.setIfInBounds_toArray, List.set_cons_zero, List.set_cons_succ]
          refine wpAnyH_ready (rs := [11]) (by kernel_rfl) (by simp) (AllReadyH.cons (o := ?o_11_62) ?ho_11_62 (fun K hK => ?_) AllReadyH.nil)
          case ho_11_62 => (simp only [List.getElem?_toArray, List.getElem?_cons_zero, List.getElem?_cons_succ]; rfl)
          clear hHeld
          focus (go_simp)
          refine hK.out _ _ ?hS_63 (fun hHeld => ?rest_63)
          case hS_63 => ((try dsimp only); first | (with_reducible exact hKK) | (with_reducible exact HM1.out) | (with_reducible exact HM2.out) | (with_reducible exact HM3.out) | (with_reducible exact HM4.out) | (with_reducible exact Hmk.out _ (bal (k8 hKK) _)) | ((with_reducible refine Hmk.out _ (Below.setCell (Below.setCell (Below.setCell (Below.setCell (Below.setCell (Below.setCell (k8 hKK) ?_ _) ?_ _) ?_ _) ?_ _) ?_ _) ?_ _)) <;> first | exact Nat.le_refl _ | exact Nat.le_succ _))
          clear hK K
          try simp only [Act.put, List.setIfInBounds_toArray, List.set_cons_zero, List.set_cons_succ]
          refine wpAnyH_ready (rs := [12]) (by kernel_rfl) (by simp) (AllReadyH.cons (o := ?o_12_64) ?ho_12_64 (fun K hK => ?_) AllReadyH.nil)
          case ho_12_64 => (simp only [List.getElem?_toArray, List.getElem?_cons_zero, List.getElem?_cons_succ]; rfl)
          focus (go_simp)
          focus (first | (go_at_call 10; (with_reducible refine (Hcall.out _ ?_).mono ?_); exact (k8 (by with_reducible first | exact hS | assumption)); rintro e w9 ⟨A5, c5, rfl, ho9, hb9⟩; dsimp only [sesVal]; have hKK := Hmk.out w9 (btr (k8 (by with_reducible first | exact hS | assumption)) hb9); try (first | (have hB9 : Bk w9 wi.heap.size zeroC 33 := (by with_reducible exact HZ1.out.later hb9); have y0 := hB9.cell 0 _ rfl; have y1 := hB9.cell 1 _ rfl; have y2 := hB9.cell 2 _ rfl; have y3 := hB9.cell 3 _ rfl; have y4 := hB9.cell 4 _ rfl; have y5 := hB9.cell 5 _ rfl; have f0 := hB9.frozen 0; have f1 := hB9.frozen 1; have f2 := hB9.frozen 2; have f3 := hB9.frozen 3; have f4 := hB9.frozen 4; have f5 := hB9.frozen 5) | (have hB9 : Bk w9 (wi.heap.size + 1) zeroC 33 := (by with_reducible exact HZ2.out.later hb9); have y0 := hB9.cell 0 _ rfl; have y1 := hB9.cell 1 _ rfl; have y2 := hB9.cell 2 _ rfl; have y3 := hB9.cell 3 _ rfl; have y4 := hB9.cell 4 _ rfl; have y5 := hB9.cell 5 _ rfl; have f0 := hB9.frozen 0; have f1 := hB9.frozen 1; have f2 := hB9.frozen 2; have f3 := hB9.frozen 3; have f4 := hB9.frozen 4; have f5 := hB9.frozen 5))))
          focus (go_wp2_with fail)
          have hOld := hHeld
          clear hHeld
          refine hK.out _ _ ?hS_65 (fun hHeld => ?rest_65)
          case hS_65 => ((try dsimp only); first | (with_reducible exact hKK) | (with_reducible exact HM1.out) | (with_reducible exact HM2.out) | (with_reducible exact HM3.out) | (with_reducible exact HM4.out) | (with_reducible exact Hmk.out _ (bal (k8 hKK) _)) | ((with_reducible refine Hmk.out _ (Below.setCell (Below.setCell (Below.setCell (Below.setCell (Below.setCell (Below.setCell (k8 hKK) ?_ _) ?_ _) ?_ _) ?_ _) ?_ _) ?_ _)) <;> first | exact Nat.le_refl _ | exact Nat.le_succ _))
          clear hK K hOld
          try simp only [Act.put, List.setIfInBounds_toArray, List.set_cons_zero, List.set_cons_succ]
          refine wpAnyH_take (i := 13) (oi := ?oi_66) (v := ?v_66) ?hi_66 (by kernel_rfl) (by kernel_rfl) (by kernel_rfl) (fun _ _ _ h => h) (Or.inl ⟨?hw_66, ?hy_66⟩) (by assumption) ?rest_66
          case hi_66 => (simp only [List.getElem?_toArray, List.getElem?_cons_zero, List.getElem?_cons_succ]; rfl)
          case hw_66 => rfl
          case hy_66 => (intro w hSw; (try dsimp only at hSw); go_simp; try with_reducible rfl)
          try simp only [Act.put, List.setIfInBounds_toArray, List.set_cons_zero, List.set_cons_succ]
          refine wpAnyH_take (i := 14) (oi := ?oi_67) (v := ?v_67) ?hi_67 (by kernel_rfl) (by kernel_rfl) (by kernel_rfl) (fun _ _ _ h => h) (Or.inl ⟨?hw_67, ?hy_67⟩) (by assumption) ?rest_67
          case hi_67 => (simp only [List.getElem?_toArray, List.getElem?_cons_zero, List.getElem?_cons_succ]; rfl)
          case hw_67 => rfl
          case hy_67 => (intro w hSw; (try dsimp only at hSw); go_simp; try with_reducible rfl)
          try simp only [Act.put, List.setIfInBounds_toArray, List.set_cons_zero, List.set_cons_succ]
          refine wpAnyH_take (i := 15) (oi := ?oi_68) (v := ?v_68) ?hi_68 (by kernel_rfl) (by kernel_rfl) (by kernel_rfl) (fun _ _ _ h => h) (Or.inl ⟨?hw_68, ?hy_68⟩) (by assumption) ?rest_68
          case hi_68 => (simp only [List.getElem?_toArray, List.getElem?_cons_zero, List.getElem?_cons_succ]; rfl)
          case hw_68 => rfl
          case hy_68 => (intro w hSw; (try dsimp only at hSw); go_simp; try with_reducible rfl)
          try simp only [Act.put, List.setIfInBounds_toArray, List.set_cons_zero, List.set_cons_succ]
          refine wpAnyH_take (i := 16) (oi := ?oi_69) (v := ?v_69) ?hi_69 (by kernel_rfl) (by kernel_rfl) (by kernel_rfl) (fun _ _ _ h => h) (Or.inl ⟨?hw_69, ?hy_69⟩) (by assumption) ?rest_69
          case hi_69 => (simp only [List.getElem?_toArray, List.getElem?_cons_zero, List.getElem?_cons_succ]; rfl)
          case hw_69 => rfl
          case hy_69 => (intro w hSw; (try dsimp only at hSw); go_simp; try with_reducible rfl)
          try simp only [Act.put, List.setIfInBounds_toArray, List.set_cons_zero, List.set_cons_succ]
          refine wpAnyH_take (i := 17) (oi := ?oi_70) (v := ?v_70) ?hi_70 (by kernel_rfl) (by kernel_rfl) (by kernel_rfl) (fun _ _ _ h => h) (Or.inl ⟨?hw_70, ?hy_70⟩) (by assumption) ?rest_70
          case hi_70 => (simp only [List.getElem?_toArray, List.getElem?_cons_zero, List.getElem?_cons_succ]; rfl)
          case hw_70 => rfl
          case hy_70 => (intro w hSw; (try dsimp only at hSw); go_simp; try with_reducible rfl)
          try simp only [Act.put, List.setIfInBounds_toArray, List.set_cons_zero, List.set_cons_succ]
          refine wpAnyH_ready (rs := [19]) (by kernel_rfl) (by simp) (AllReadyH.cons (o := ?o_19_71) ?ho_19_71 (fun K hK => ?_) AllReadyH.nil)
          case ho_19_71 => (simp only [List.getElem?_toArray, List.getElem?_cons_zero, List.getElem?_cons_succ]; rfl)
          clear hHeld
          focus (go_simp)
          refine hK.out _ _ ?hS_72 (fun hHeld => ?rest_72)
          case hS_72 => ((try dsimp only); first | (with_reducible exact hKK) | (with_reducible exact HM1.out) | (with_reducible exact HM2.out) | (with_reducible exact HM3.out) | (with_reducible exact HM4.out) | (with_reducible exact Hmk.out _ (bal (k8 hKK) _)) | ((with_reducible refine Hmk.out _ (Below.setCell (Below.setCell (Below.setCell (Below.setCell (Below.setCell (Below.setCell (k8 hKK) ?_ _) ?_ _) ?_ _) ?_ _) ?_ _) ?_ _)) <;> first | exact Nat.le_refl _ | exact Nat.le_succ _))
          clear hK K
          try simp only [Act.put, List.setIfInBounds_toArray, List.set_cons_zero, List.set_cons_succ]
          refine wpAnyH_take (i := 20) (oi := ?oi_73) (v := ?v_73) ?hi_73 (by kernel_rfl) (by kernel_rfl) (by kernel_rfl) (fun _ _ _ h => h) (Or.inl ⟨?hw_73, ?hy_73⟩) (by assumption) ?rest_73
          case hi_73 => (simp only [List.getElem?_toArray, List.getElem?_cons_zero, List.getElem?_cons_succ]; rfl)
          case hw_73 => rfl
          case hy_73 => (intro w hSw; (try dsimp only at hSw); go_simp; try with_reducible rfl)
          try simp only [Act.put, List.setIfInBounds_toArray, List.set_cons_zero, List.set_cons_succ]
          refine wpAnyH_take (i := 21) (oi := ?oi_74) (v := ?v_74) ?hi_74 (by kernel_rfl) (by kernel_rfl) (by kernel_rfl) (fun _ _ _ h => h) (Or.inl ⟨?hw_74, ?hy_74⟩) (by assumption) ?rest_74
          case hi_74 => (simp only [List.getElem?_toArray, List.getElem?_cons_zero, List.getElem?_cons_succ]; rfl)
          case hw_74 => rfl
          case hy_74 => (intro w hSw; (try dsimp only at hSw); go_simp; try with_reducible rfl)
          try simp only [Act.put, List.setIfInBounds_toArray, List.set_cons_zero, List.set_cons_succ]
          refine wpAnyH_take (i := 22) (oi := ?oi_75) (v := ?v_75) ?hi_75 (by kernel_rfl) (by kernel_rfl) (by kernel_rfl) (fun _ _ _ h => h) (Or.inl ⟨?hw_75, ?hy_75⟩) (by assumption) ?rest_75
          case hi_75 => (simp only [List.getElem?_toArray, List.getElem?_cons_zero, List.getElem?_cons_succ]; rfl)
          case hw_75 => rfl
          case hy_75 => (intro w hSw; (try dsimp only at hSw); go_simp; try with_reducible rfl)
          try simp only [Act.put, List.setIfInBounds_toArray, List.set_cons_zero, List.set_cons_succ]
          refine wpAnyH_done (by kernel_rfl) ?_ _
          refine NoPanic.normal ?_
          rotate_left
          all_goals (
            first
              | (have hW := got_put (btr (bdr wi) (k8 hKK)) (show Bk w9 wi.heap.size zeroC 33 from hB9) ho9 (Nat.le_refl _)
                 unfold put6 at hW
                 clear hKK hb9 HM1 HM2 HM3 HM4 Hmk Hcall ho9 HZ1 HZ2 hB9 y0 y1 y2 y3 y4 y5 f0 f1 f2 f3 f4 f5 hC1 hC2 hC3
                 generalize (((((w9.setCell ⟨wi.heap.size, 0, none⟩ (.int .i64 y.step)).setCell ⟨wi.heap.size, 1, none⟩ (.string y.frm.loc)).setCell ⟨wi.heap.size, 2, none⟩ (.string y.frm.dom)).setCell ⟨wi.heap.size, 3, none⟩ (.slice A5 y.rcp.length c5)).setCell ⟨wi.heap.size, 4, none⟩ (.string y.text)).setCell ⟨wi.heap.size, 5, none⟩ (.bool y.large) = W at *)
              | (have hW := got_put (btr (bdr wi) (k8 hKK)) (show Bk w9 (wi.heap.size + 1) zeroC 33 from hB9) ho9 (Nat.le_succ _)
                 unfold put6 at hW
                 clear hKK hb9 HM1 HM2 HM3 HM4 Hmk Hcall ho9 HZ1 HZ2 hB9 y0 y1 y2 y3 y4 y5 f0 f1 f2 f3 f4 f5 hC1 hC2 hC3
                 generalize (((((w9.setCell ⟨wi.heap.size + 1, 0, none⟩ (.int .i64 y.step)).setCell ⟨wi.heap.size + 1, 1, none⟩ (.string y.frm.loc)).setCell ⟨wi.heap.size + 1, 2, none⟩ (.string y.frm.dom)).setCell ⟨wi.heap.size + 1, 3, none⟩ (.slice A5 y.rcp.length c5)).setCell ⟨wi.heap.size + 1, 4, none⟩ (.string y.text)).setCell ⟨wi.heap.size + 1, 5, none⟩ (.bool y.large) = W at *)
              | (have hW := got_new (btr (bdr wi) (k8 hKK)) ho9
                 unfold sesCells at hW
                 clear hKK hb9 HM1 HM2 HM3 HM4 Hmk Hcall ho9 HZ1 HZ2 hC1 hC2 hC3
                 generalize w9.alloc (.cells #[.int .i64 y.step, .string y.frm.loc, .string y.frm.dom, .slice A5 y.rcp.length c5, .string y.text, .bool y.large] 33) = W at *))
          all_goals (
            have n0 := hW.at_.bk.cell 0 _ rfl
            have n1 := hW.at_.bk.cell 1 _ rfl
            have n2 := hW.at_.bk.cell 2 _ rfl
            have n3 := hW.at_.bk.cell 3 _ rfl
            have n4 := hW.at_.bk.cell 4 _ rfl
            have n5 := hW.at_.bk.cell 5 _ rfl
            have hx6 := (HS2.out.later hW.bel).bk
            have s0 := hx6.cell 0 _ rfl
            have s1 := hx6.cell 1 _ rfl
            have s2 := hx6.cell 2 _ rfl
            have s3 := hx6.cell 3 _ rfl
            have s4 := hx6.cell 4 _ rfl
            have s5 := hx6.cell 5 _ rfl
            have g0 := hx6.frozen 0
            have g1 := hx6.frozen 1
            have g2 := hx6.frozen 2
            have g3 := hx6.frozen 3
            have g4 := hx6.frozen 4
            have g5 := hx6.frozen 5
            have hfin := Hput.out W A5 c5 hW.bel hW.at_.row
            have hbf : Below sb w6 (put6 W sb y (.slice A5 y.rcp.length c5)) := put6_belowB (Hb.out.trans ((btr Hbi.out hW.bel).mono (by omega))) (Nat.le_refl _) _ _
            unfold put6 at hfin hbf
            have Hfin := Lib.hid hfin
            have Hbf := Lib.hid hbf
            clear hfin hbf hW hx6
            go_wp2_with fail
            go_roundw
            case rel => exact ⟨j + 1, A5, c5, by omega, by go_num, by rw [Hy.out]; exact Hfin.out, Hbf.out⟩
            case measure => simp [intOf]; omega)
    · obtain rfl : j = 4 := by omega
      generalize wr = wi at *
      have hpk := fun (W : World) => picked_calls n 2 W hn (by decide) (by decide)
      have hkk := pickN_lt n 2 (by decide)
      generalize pickN n 2 = kk at *
      have hkn : kk < 2 := by omega
      have hk0 : (0 : Int) ≤ (kk : Int) := by omega
      have hk2 : (kk : Int) < 2 := by omega
      have hnc := endL_cell kk hkn
      have hns := endL_size kk hkn
      have hon := ord_end ⟨al, ad⟩ [al] kk hkn
      have hv := Hov.out 4 (by omega)
      have hst := ordS_step ⟨al, ad⟩ 4
      have hS := HS.out
      generalize endL kk = line at *
      generalize ordS ⟨al, ad⟩ 4 = x at *
      have hye : (endC kk = 250 ∧ (readyS (endT kk)).step = 1 ∧ (readyS (endT kk)).rcp.length = 0) ∨ (endC kk = 221 ∧ (readyS (endT kk)).step = 5 ∧ (readyS (endT kk)).rcp.length = 0) := by
        rcases (show kk = 0 ∨ kk = 1 by omega) with rfl | rfl
        · exact .inl ⟨rfl, rfl, rfl⟩
        · exact .inr ⟨rfl, rfl, rfl⟩
      generalize readyS (endT kk) = y at *
      generalize endC kk = code at *
      have Hye := Lib.hid hye
      have Hpk := Lib.hid hpk
      have hd := bdr wi
      have hcall := fun (W : World) (hW : Below wi.drew.heap.size wi.drew W) => line_at x A c line [al] (some ⟨qK, 0, none⟩) 1 m W sb ((hS.later hd).later hW) hv (by omega) (((strs_bk HKr.out).later hd).later hW) (by simp) (cell_later hW (cell_later hd Hmr.out)) (fun h => absurd h hst.2)
      simp only [hon, List.length_cons, List.length_nil, Nat.zero_add] at hcall
      unfold sesVal at hcall
      have s0 := hS.bk.cell 0 _ rfl
      have s1 := hS.bk.cell 1 _ rfl
      have s2 := hS.bk.cell 2 _ rfl
      have s3 := hS.bk.cell 3 _ rfl
      have s4 := hS.bk.cell 4 _ rfl
      have s5 := hS.bk.cell 5 _ rfl
      have hmk := fun (W : World) (hW : Below wi.drew.heap.size wi.drew W) => And.intro (cell_later hW (cell_later hd s0)) (And.intro (cell_later hW (cell_later hd s1)) (And.intro (cell_later hW (cell_later hd s2)) (And.intro (cell_later hW (cell_later hd s3)) (And.intro (cell_later hW (cell_later hd s4)) (And.intro (cell_later hW (cell_later hd s5)) hW)))))
      have Hmk := Lib.hid hmk
      have Hcall := Lib.hid hcall
      have hKK := Hmk.out wi.drew (Below.refl _ _)
      have hF1 := (Bk.new wi [.string ⟨#[82, 83, 69, 84]⟩, .string ⟨#[81, 85, 73, 84]⟩] 9)
      have hF2 := hF1.alloc (.cells #[.int .i64 0, .string ⟨#[]⟩, .string ⟨#[]⟩, .slice none 0 0, .string ⟨#[]⟩, .bool false] 33)
      have hF3 := Bk.new (wi.alloc (.cells #[.int .i64 0, .string ⟨#[]⟩, .string ⟨#[]⟩, .slice none 0 0, .string ⟨#[]⟩, .bool false] 33)) [.string ⟨#[82, 83, 69, 84]⟩, .string ⟨#[81, 85, 73, 84]⟩] 9
      rw [show (wi.alloc (.cells #[.int .i64 0, .string ⟨#[]⟩, .string ⟨#[]⟩, .slice none 0 0, .string ⟨#[]⟩, .bool false] 33)).heap.size = wi.heap.size + 1 by simp] at hF3
      have hC1 := (hF1.later (bdr _)).cell kk _ hnc
      have hC2 := (hF2.later (bdr _)).cell kk _ hnc
      have hC3 := (hF3.later (bdr _)).cell kk _ hnc
      have hZ1 : Bk ((wi.alloc (.cells #[.int .i64 0, .string ⟨#[]⟩, .string ⟨#[]⟩, .slice none 0 0, .string ⟨#[]⟩, .bool false] 33)).alloc (.cells #[.string ⟨#[82, 83, 69, 84]⟩, .string ⟨#[81, 85, 73, 84]⟩] 9)).drew wi.heap.size zeroC 33 := ((Bk.new wi zeroC 33).alloc _).later (bdr _)
      have hZ2 : Bk ((wi.alloc (.cells #[.string ⟨#[82, 83, 69, 84]⟩, .string ⟨#[81, 85, 73, 84]⟩] 9)).alloc (.cells #[.int .i64 0, .string ⟨#[]⟩, .string ⟨#[]⟩, .slice none 0 0, .string ⟨#[]⟩, .bool false] 33)).drew (wi.heap.size + 1) zeroC 33 := by
        have h := Bk.new (wi.alloc (.cells #[.string ⟨#[82, 83, 69, 84]⟩, .string ⟨#[81, 85, 73, 84]⟩] 9)) zeroC 33
        rw [show (wi.alloc (.cells #[.string ⟨#[82, 83, 69, 84]⟩, .string ⟨#[81, 85, 73, 84]⟩] 9)).heap.size = wi.heap.size + 1 by simp] at h
        exact h.later (bdr _)
      have HZ1 := Lib.hid hZ1
      have HZ2 := Lib.hid hZ2
      have hM1 := Hmk.out (wi.alloc (.cells #[.string ⟨#[82, 83, 69, 84]⟩, .string ⟨#[81, 85, 73, 84]⟩] 9)).drew (bal (Below.refl _ wi.drew) (.cells #[.string ⟨#[82, 83, 69, 84]⟩, .string ⟨#[81, 85, 73, 84]⟩] 9))
      have hM2 := Hmk.out (wi.alloc (.cells #[.int .i64 0, .string ⟨#[]⟩, .string ⟨#[]⟩, .slice none 0 0, .string ⟨#[]⟩, .bool false] 33)).drew (bal (Below.refl _ wi.drew) (.cells #[.int .i64 0, .string ⟨#[]⟩, .string ⟨#[]⟩, .slice none 0 0, .string ⟨#[]⟩, .bool false] 33))
      have hM3 := Hmk.out ((wi.alloc (.cells #[.string ⟨#[82, 83, 69, 84]⟩, .string ⟨#[81, 85, 73, 84]⟩] 9)).alloc (.cells #[.int .i64 0, .string ⟨#[]⟩, .string ⟨#[]⟩, .slice none 0 0, .string ⟨#[]⟩, .bool false] 33)).drew (bal (bal (Below.refl _ wi.drew) (.cells #[.string ⟨#[82, 83, 69, 84]⟩, .string ⟨#[81, 85, 73, 84]⟩] 9)) (.cells #[.int .i64 0, .string ⟨#[]⟩, .string ⟨#[]⟩, .slice none 0 0, .string ⟨#[]⟩, .bool false] 33))
      have hM4 := Hmk.out ((wi.alloc (.cells #[.int .i64 0, .string ⟨#[]⟩, .string ⟨#[]⟩, .slice none 0 0, .string ⟨#[]⟩, .bool false] 33)).alloc (.cells #[.string ⟨#[82, 83, 69, 84]⟩, .string ⟨#[81, 85, 73, 84]⟩] 9)).drew (bal (bal (Below.refl _ wi.drew) (.cells #[.int .i64 0, .string ⟨#[]⟩, .string ⟨#[]⟩, .slice none 0 0, .string ⟨#[]⟩, .bool false] 33)) (.cells #[.string ⟨#[82, 83, 69, 84]⟩, .string ⟨#[81, 85, 73, 84]⟩] 9))
      have HM1 := Lib.hid hM1
      have HM2 := Lib.hid hM2
      have HM3 := Lib.hid hM3
      have HM4 := Lib.hid hM4
      clear hM1 hM2 hM3 hM4 hF1 hF2 hF3 hZ1 hZ2 hmk hcall hd s0 s1 s2 s3 s4 s5 hnc hns hon hv hst hS hye hpk
      go_wp2_with fail
      refine wp_region_noPanic ?_
      refine wp_region_held_drew (S := (fun W => W.cell? ⟨sb, 0, none⟩ = some (.int .i64 x.step) ∧ W.cell? ⟨sb, 1, none⟩ = some (.string x.frm.loc) ∧ W.cell? ⟨sb, 2, none⟩ = some (.string x.frm.dom) ∧ W.cell? ⟨sb, 3, none⟩ = some (.slice A x.rcp.length c) ∧ W.cell? ⟨sb, 4, none⟩ = some (.string x.text) ∧ W.cell? ⟨sb, 5, none⟩ = some (.bool x.large) ∧ Below wi.drew.heap.size wi.drew W)) (by kernel_rfl) ?hS_1001 (fun hHeld => ?rest_1001)
      case hS_1001 => (first | (with_reducible assumption) | (with_reducible exact HM1.out) | (with_reducible exact HM2.out) | (with_reducible exact HM3.out) | (with_reducible exact HM4.out) | (with_reducible exact Hmk.out _ (bal (k6o hKK) _)) | ((with_reducible refine Hmk.out _ (Below.setCell (Below.setCell (Below.setCell (Below.setCell (Below.setCell (Below.setCell (k6o hKK) ?_ _) ?_ _) ?_ _) ?_ _) ?_ _) ?_ _)) <;> first | exact Nat.le_refl _ | exact Nat.le_succ _))
      refine wpAnyH_take (i := 0) (oi := ?oi_1002) (v := ?v_1002) ?hi_1002 (by kernel_rfl) (by kernel_rfl) (by kernel_rfl) (fun _ _ _ h => h) (Or.inl ⟨?hw_1002, ?hy_1002⟩) (by assumption) ?rest_1002
      case hi_1002 => (simp only [List.getElem?_toArray, List.getElem?_cons_zero, List.getElem?_cons_succ]; rfl)
      case hw_1002 => rfl
      case hy_1002 => (intro w hSw; (try dsimp only at hSw); go_simp; try with_reducible rfl)
      try simp only [Act.put, List.setIfInBounds_toArray, List.set_cons_zero, List.set_cons_succ]
      refine wpAnyH_take (i := 1) (oi := ?oi_1003) (v := ?v_1003) ?hi_1003 (by kernel_rfl) (by kernel_rfl) (by kernel_rfl) (fun _ _ _ h => h) (Or.inl ⟨?hw_1003, ?hy_1003⟩) (by assumption) ?rest_1003
      case hi_1003 => (simp only [List.getElem?_toArray, List.getElem?_cons_zero, List.getElem?_cons_succ]; rfl)
      case hw_1003 => rfl
      case hy_1003 => (intro w hSw; (try dsimp only at hSw); go_simp; try with_reducible rfl)
      try simp only [Act.put, List.setIfInBounds_toArray, List.set_cons_zero, List.set_cons_succ]
      refine wpAnyH_take (i := 3) (oi := ?oi_1004) (v := ?v_1004) ?hi_1004 (by kernel_rfl) (by kernel_rfl) (by kernel_rfl) (fun _ _ _ h => h) (Or.inl ⟨?hw_1004, ?hy_1004⟩) (by assumption) ?rest_1004
      case hi_1004 => (simp only [List.getElem?_toArray, List.getElem?_cons_zero, List.getElem?_cons_succ]; rfl)
      case hw_1004 => rfl
      case hy_1004 => (intro w hSw; (try dsimp only at hSw); go_simp; try with_reducible rfl)
      try simp only [Act.put, List.setIfInBounds_toArray, List.set_cons_zero, List.set_cons_succ]
      refine wpAnyH_ready (rs := [2, 4, 13]) (by kernel_rfl) (by simp) (AllReadyH.cons (o := ?o_2_1005) ?ho_2_1005 (fun K hK => ?_) (AllReadyH.cons (o := ?o_4_1005) ?ho_4_1005 (fun K hK => ?_) (AllReadyH.cons (o := ?o_13_1005) ?ho_13_1005 (fun K hK => ?_) AllReadyH.nil)))
      case ho_2_1005 => (simp only [List.getElem?_toArray, List.getElem?_cons_zero, List.getElem?_cons_succ]; rfl)
      case ho_4_1005 => (simp only [List.getElem?_toArray, List.getElem?_cons_zero, List.getElem?_cons_succ]; rfl)
      case ho_13_1005 => (simp only [List.getElem?_toArray, List.getElem?_cons_zero, List.getElem?_cons_succ]; rfl)
      clear hHeld
      focus (go_simp)
      refine hK.out _ _ ?hS_1006 (fun hHeld => ?rest_1006)
      case hS_1006 => ((try dsimp only); first | (with_reducible assumption) | (with_reducible exact HM1.out) | (with_reducible exact HM2.out) | (with_reducible exact HM3.out) | (with_reducible exact HM4.out) | (with_reducible exact Hmk.out _ (bal (k6o hKK) _)) | ((with_reducible refine Hmk.out _ (Below.setCell (Below.setCell (Below.setCell (Below.setCell (Below.setCell (Below.setCell (k6o hKK) ?_ _) ?_ _) ?_ _) ?_ _) ?_ _) ?_ _)) <;> first | exact Nat.le_refl _ | exact Nat.le_succ _))
      clear hK K
      try simp only [Act.put, List.setIfInBounds_toArray, List.set_cons_zero, List.set_cons_succ]
      refine wpAnyH_ready (rs := [4, 13]) (by kernel_rfl) (by simp) (AllReadyH.cons (o := ?o_4_1007) ?ho_4_1007 (fun K hK => ?_) (AllReadyH.cons (o := ?o_13_1007) ?ho_13_1007 (fun K hK => ?_) AllReadyH.nil))
      case ho_4_1007 => (simp only [List.getElem?_toArray, List.getElem?_cons_zero, List.getElem?_cons_succ]; rfl)
      case ho_13_1007 => (simp only [List.getElem?_toArray, List.getElem?_cons_zero, List.getElem?_cons_succ]; rfl)
      focus (go_simp)
      focus (first | (go_at_call 11; (with_reducible refine (Hpk.out _).mono ?_); rintro e w8 ⟨rfl, rfl⟩) | (go_at_call 10; (with_reducible refine (Hcall.out _ ?_).mono ?_); exact (k6o (by with_reducible first | exact hS | assumption)); rintro e w9 ⟨A5, c5, rfl, ho9, hb9⟩; dsimp only [sesVal]; have hKK := Hmk.out w9 (btr (k6o (by with_reducible first | exact hS | assumption)) hb9); try (first | (have hB9 : Bk w9 wi.heap.size zeroC 33 := (by with_reducible exact HZ1.out.later hb9); have y0 := hB9.cell 0 _ rfl; have y1 := hB9.cell 1 _ rfl; have y2 := hB9.cell 2 _ rfl; have y3 := hB9.cell 3 _ rfl; have y4 := hB9.cell 4 _ rfl; have y5 := hB9.cell 5 _ rfl; have f0 := hB9.frozen 0; have f1 := hB9.frozen 1; have f2 := hB9.frozen 2; have f3 := hB9.frozen 3; have f4 := hB9.frozen 4; have f5 := hB9.frozen 5) | (have hB9 : Bk w9 (wi.heap.size + 1) zeroC 33 := (by with_reducible exact HZ2.out.later hb9); have y0 := hB9.cell 0 _ rfl; have y1 := hB9.cell 1 _ rfl; have y2 := hB9.cell 2 _ rfl; have y3 := hB9.cell 3 _ rfl; have y4 := hB9.cell 4 _ rfl; have y5 := hB9.cell 5 _ rfl; have f0 := hB9.frozen 0; have f1 := hB9.frozen 1; have f2 := hB9.frozen 2; have f3 := hB9.frozen 3; have f4 := hB9.frozen 4; have f5 := hB9.frozen 5))))
      focus (go_wp2_with fail)
      have hOld := hHeld
      clear hHeld
      refine hK.out _ _ ?hS_1008 (fun hHeld => ?rest_1008)
      case hS_1008 => ((try dsimp only); first | (with_reducible assumption) | (with_reducible exact HM1.out) | (with_reducible exact HM2.out) | (with_reducible exact HM3.out) | (with_reducible exact HM4.out) | (with_reducible exact Hmk.out _ (bal (k6o hKK) _)) | ((with_reducible refine Hmk.out _ (Below.setCell (Below.setCell (Below.setCell (Below.setCell (Below.setCell (Below.setCell (k6o hKK) ?_ _) ?_ _) ?_ _) ?_ _) ?_ _) ?_ _)) <;> first | exact Nat.le_refl _ | exact Nat.le_succ _))
      clear hK K hOld
      try simp only [Act.put, List.setIfInBounds_toArray, List.set_cons_zero, List.set_cons_succ]
      refine wpAnyH_take (i := 5) (oi := ?oi_1009) (v := ?v_1009) ?hi_1009 (by kernel_rfl) (by kernel_rfl) (by kernel_rfl) (fun _ _ _ h => h) (Or.inl ⟨?hw_1009, ?hy_1009⟩) (by assumption) ?rest_1009
      case hi_1009 => (simp only [List.getElem?_toArray, List.getElem?_cons_zero, List.getElem?_cons_succ]; rfl)
      case hw_1009 => rfl
      case hy_1009 => (intro w hSw; (try dsimp only at hSw); go_simp; try with_reducible rfl)
      try simp only [Act.put, List.setIfInBounds_toArray, List.set_cons_zero, List.set_cons_succ]
      refine wpAnyH_ready (rs := [6, 13]) (by kernel_rfl) (by simp) (AllReadyH.cons (o := ?o_6_1010) ?ho_6_1010 (fun K hK => ?_) (AllReadyH.cons (o := ?o_13_1010) ?ho_13_1010 (fun K hK => ?_) AllReadyH.nil))
      case ho_6_1010 => (simp only [List.getElem?_toArray, List.getElem?_cons_zero, List.getElem?_cons_succ]; rfl)
      case ho_13_1010 => (simp only [List.getElem?_toArray, List.getElem?_cons_zero, List.getElem?_cons_succ]; rfl)
      clear hHeld
      focus (go_simp)
      refine hK.out _ _ ?hS_1011 (fun hHeld => ?rest_1011)
      case hS_1011 => ((try dsimp only); first | (with_reducible assumption) | (with_reducible exact HM1.out) | (with_reducible exact HM2.out) | (with_reducible exact HM3.out) | (with_reducible exact HM4.out) | (with_reducible exact Hmk.out _ (bal (k6o hKK) _)) | ((with_reducible refine Hmk.out _ (Below.setCell (Below.setCell (Below.setCell (Below.setCell (Below.setCell (Below.setCell (k6o hKK) ?_ _) ?_ _) ?_ _) ?_ _) ?_ _) ?_ _)) <;> first | exact Nat.le_refl _ | exact Nat.le_succ _))
      clear hK K
      try simp only [Act.put, List.setIfInBounds_toArray, List.set_cons_zero, List.set_cons_succ]
      refine wpAnyH_ready (rs := [7, 13]) (by kernel_rfl) (by simp) (AllReadyH.cons (o := ?o_7_1012) ?ho_7_1012 (fun K hK => ?_) (AllReadyH.cons (o := ?o_13_1012) ?ho_13_1012 (fun K hK => ?_) AllReadyH.nil))
      case ho_7_1012 => (simp only [List.getElem?_toArray, List.getElem?_cons_zero, List.getElem?_cons_succ]; rfl)
      case ho_13_1012 => (simp only [List.getElem?_toArray, List.getElem?_cons_zero, List.getElem?_cons_succ]; rfl)
      focus (go_simp)
      focus (first | (go_at_call 11; (with_reducible refine (Hpk.out _).mono ?_); rintro e w8 ⟨rfl, rfl⟩) | (go_at_call 10; (with_reducible refine (Hcall.out _ ?_).mono ?_); exact (k6o (by with_reducible first | exact hS | assumption)); rintro e w9 ⟨A5, c5, rfl, ho9, hb9⟩; dsimp only [sesVal]; have hKK := Hmk.out w9 (btr (k6o (by with_reducible first | exact hS | assumption)) hb9); try (first | (have hB9 : Bk w9 wi.heap.size zeroC 33 := (by with_reducible exact HZ1.out.later hb9); have y0 := hB9.cell 0 _ rfl; have y1 := hB9.cell 1 _ rfl; have y2 := hB9.cell 2 _ rfl; have y3 := hB9.cell 3 _ rfl; have y4 := hB9.cell 4 _ rfl; have y5 := hB9.cell 5 _ rfl; have f0 := hB9.frozen 0; have f1 := hB9.frozen 1; have f2 := hB9.frozen 2; have f3 := hB9.frozen 3; have f4 := hB9.frozen 4; have f5 := hB9.frozen 5) | (have hB9 : Bk w9 (wi.heap.size + 1) zeroC 33 := (by with_reducible exact HZ2.out.later hb9); have y0 := hB9.cell 0 _ rfl; have y1 := hB9.cell 1 _ rfl; have y2 := hB9.cell 2 _ rfl; have y3 := hB9.cell 3 _ rfl; have y4 := hB9.cell 4 _ rfl; have y5 := hB9.cell 5 _ rfl; have f0 := hB9.frozen 0; have f1 := hB9.frozen 1; have f2 := hB9.frozen 2; have f3 := hB9.frozen 3; have f4 := hB9.frozen 4; have f5 := hB9.frozen 5))))
      focus (go_wp2_with fail)
      have hOld := hHeld
      clear hHeld
      refine hK.out _ _ ?hS_1013 (fun hHeld => ?rest_1013)
      case hS_1013 => ((try dsimp only); first | (with_reducible assumption) | (with_reducible exact HM1.out) | (with_reducible exact HM2.out) | (with_reducible exact HM3.out) | (with_reducible exact HM4.out) | (with_reducible exact Hmk.out _ (bal (k6o hKK) _)) | ((with_reducible refine Hmk.out _ (Below.setCell (Below.setCell (Below.setCell (Below.setCell (Below.setCell (Below.setCell (k6o hKK) ?_ _) ?_ _) ?_ _) ?_ _) ?_ _) ?_ _)) <;> first | exact Nat.le_refl _ | exact Nat.le_succ _))
      clear hK K hOld
      try simp only [Act.put, List.setIfInBounds_toArray, List.set_cons_zero, List.set_cons_succ]
      refine wpAnyH_take (i := 8) (oi := ?oi_1014) (v := ?v_1014) ?hi_1014 (by kernel_rfl) (by kernel_rfl) (by kernel_rfl) (fun _ _ _ h => h) (Or.inl ⟨?hw_1014, ?hy_1014⟩) (by assumption) ?rest_1014
      case hi_1014 => (simp only [List.getElem?_toArray, List.getElem?_cons_zero, List.getElem?_cons_succ]; rfl)
      case hw_1014 => rfl
      case hy_1014 => (intro w hSw; (try dsimp only at hSw); go_simp; try with_reducible rfl)
      try simp only [Act.put, List.setIfInBounds_toArray, List.set_cons_zero, List.set_cons_succ]
      refine wpAnyH_take (i := 9) (oi := ?oi_1015) (v := ?v_1015) ?hi_1015 (by kernel_rfl) (by kernel_rfl) (by kernel_rfl) (fun _ _ _ h => h) (Or.inl ⟨?hw_1015, ?hy_1015⟩) (by assumption) ?rest_1015
      case hi_1015 => (simp only [List.getElem?_toArray, List.getElem?_cons_zero, List.getElem?_cons_succ]; rfl)
      case hw_1015 => rfl
      case hy_1015 => (intro w hSw; (try dsimp only at hSw); go_simp; try with_reducible rfl)
      try simp only [Act.put, List.setIfInBounds_toArray, List.set_cons_zero, List.set_cons_succ]
      refine wpAnyH_take (i := 10) (oi := ?oi_1016) (v := ?v_1016) ?hi_1016 (by kernel_rfl) (by kernel_rfl) (by kernel_rfl) (fun _ _ _ h => h) (Or.inl ⟨?hw_1016, ?hy_1016⟩) (by assumption) ?rest_1016
      case hi_1016 => (simp only [List.getElem?_toArray, List.getElem?_cons_zero, List.getElem?_cons_succ]; rfl)
      case hw_1016 => rfl
      case hy_1016 => (intro w hSw; (try dsimp only at hSw); go_simp; try with_reducible rfl)
      try simp only [Act.put, List.setIfInBounds_toArray, List.set_cons_zero, List.set_cons_succ]
      refine wpAnyH_take (i := 11) (oi := ?oi_1017) (v := ?v_1017) ?hi_1017 (by kernel_rfl) (by kernel_rfl) (by kernel_rfl) (fun _ _ _ h => h) (Or.inl ⟨?hw_1017, ?hy_1017⟩) (by assumption) ?rest_1017
      case hi_1017 => (simp only [List.getElem?_toArray, List.getElem?_cons_zero, List.getElem?_cons_succ]; rfl)
      case hw_1017 => rfl
      case hy_1017 => (intro w hSw; (try dsimp only at hSw); go_simp; try with_reducible rfl)
      try simp only [Act.put, List.setIfInBounds_toArray, List.set_cons_zero, List.set_cons_succ]
      refine wpAnyH_take (i := 12) (oi := ?oi_1018) (v := ?v_1018) ?hi_1018 (by kernel_rfl) (by kernel_rfl) (by kernel_rfl) (fun _ _ _ h => h) (Or.inl ⟨?hw_1018, ?hy_1018⟩) (by assumption) ?rest_1018
      case hi_1018 => (simp only [List.getElem?_toArray, List.getElem?_cons_zero, List.getElem?_cons_succ]; rfl)
      case hw_1018 => rfl
      case hy_1018 => (intro w hSw; (try dsimp only at hSw); go_simp; try with_reducible rfl)
      try simp only [Act.put, List.setIfInBounds_toArray, List.set_cons_zero, List.set_cons_succ]
      refine wpAnyH_ready (rs := [13]) (by kernel_rfl) (by simp) (AllReadyH.cons (o := ?o_13_1019) ?ho_13_1019 (fun K hK => ?_) AllReadyH.nil)
      case ho_13_1019 => (simp only [List.getElem?_toArray, List.getElem?_cons_zero, List.getElem?_cons_succ]; rfl)
      clear hHeld
      focus (go_simp)
      refine hK.out _ _ ?hS_1020 (fun hHeld => ?rest_1020)
      case hS_1020 => ((try dsimp only); first | (with_reducible assumption) | (with_reducible exact HM1.out) | (with_reducible exact HM2.out) | (with_reducible exact HM3.out) | (with_reducible exact HM4.out) | (with_reducible exact Hmk.out _ (bal (k6o hKK) _)) | ((with_reducible refine Hmk.out _ (Below.setCell (Below.setCell (Below.setCell (Below.setCell (Below.setCell (Below.setCell (k6o hKK) ?_ _) ?_ _) ?_ _) ?_ _) ?_ _) ?_ _)) <;> first | exact Nat.le_refl _ | exact Nat.le_succ _))
      clear hK K
      try simp only [Act.put, List.setIfInBounds_toArray, List.set_cons_zero, List.set_cons_succ]
      refine wpAnyH_ready (rs := [14]) (by kernel_rfl) (by simp) (AllReadyH.cons (o := ?o_14_1021) ?ho_14_1021 (fun K hK => ?_) AllReadyH.nil)
      case ho_14_1021 => (simp only [List.getElem?_toArray, List.getElem?_cons_zero, List.getElem?_cons_succ]; rfl)
      clear hHeld
      focus (go_simp)
      refine hK.out _ _ ?hS_1022 (fun hHeld => ?rest_1022)
      case hS_1022 => ((try dsimp only); first | (with_reducible assumption) | (with_reducible exact HM1.out) | (with_reducible exact HM2.out) | (with_reducible exact HM3.out) | (with_reducible exact HM4.out) | (with_reducible exact Hmk.out _ (bal (k6o hKK) _)) | ((with_reducible refine Hmk.out _ (Below.setCell (Below.setCell (Below.setCell (Below.setCell (Below.setCell (Below.setCell (k6o hKK) ?_ _) ?_ _) ?_ _) ?_ _) ?_ _) ?_ _)) <;> first | exact Nat.le_refl _ | exact Nat.le_succ _))
      clear hK K
      try simp only [Act.put, List.setIfInBounds_toArray, List.set_cons_zero, List.set_cons_succ]
      refine wpAnyH_take (i := 15) (oi := ?oi_1023) (v := ?v_1023) ?hi_1023 (by kernel_rfl) (by kernel_rfl) (by kernel_rfl) (fun _ _ _ h => h) (Or.inl ⟨?hw_1023, ?hy_1023⟩) (by assumption) ?rest_1023
      case hi_1023 => (simp only [List.getElem?_toArray, List.getElem?_cons_zero, List.getElem?_cons_succ]; rfl)
      case hw_1023 => rfl
      case hy_1023 => (intro w hSw; (try dsimp only at hSw); go_simp; try with_reducible rfl)
      try simp only [Act.put, List.setIfInBounds_toArray, List.set_cons_zero, List.set_cons_succ]
      refine wpAnyH_take (i := 16) (oi := ?oi_1024) (v := ?v_1024) ?hi_1024 (by kernel_rfl) (by kernel_rfl) (by kernel_rfl) (fun _ _ _ h => h) (Or.inl ⟨?hw_1024, ?hy_1024⟩) (by assumption) ?rest_1024
      case hi_1024 => (simp only [List.getElem?_toArray, List.getElem?_cons_zero, List.getElem?_cons_succ]; rfl)
      case hw_1024 => rfl
      case hy_1024 => (intro w hSw; (try dsimp only at hSw); go_simp; try with_reducible rfl)
      try simp only [Act.put, List.setIfInBounds_toArray, List.set_cons_zero, List.set_cons_succ]
      refine wpAnyH_take (i := 17) (oi := ?oi_1025) (v := ?v_1025) ?hi_1025 (by kernel_rfl) (by kernel_rfl) (by kernel_rfl) (fun _ _ _ h => h) (Or.inl ⟨?hw_1025, ?hy_1025⟩) (by assumption) ?rest_1025
      case hi_1025 => (simp only [List.getElem?_toArray, List.getElem?_cons_zero, List.getElem?_cons_succ]; rfl)
      case hw_1025 => rfl
      case hy_1025 => (intro w hSw; (try dsimp only at hSw); go_simp; try with_reducible rfl)
      try simp only [Act.put, List.setIfInBounds_toArray, List.set_cons_zero, List.set_cons_succ]
      refine wpAnyH_done (by kernel_rfl) ?_ _
      refine NoPanic.normal ?_
      rotate_left
      clear hHeld
      focus (go_simp)
      refine hK.out _ _ ?hS_1026 (fun hHeld => ?rest_1026)
      case hS_1026 => ((try dsimp only); first | (with_reducible assumption) | (with_reducible exact HM1.out) | (with_reducible exact HM2.out) | (with_reducible exact HM3.out) | (with_reducible exact HM4.out) | (with_reducible exact Hmk.out _ (bal (k6o hKK) _)) | ((with_reducible refine Hmk.out _ (Below.setCell (Below.setCell (Below.setCell (Below.setCell (Below.setCell (Below.setCell (k6o hKK) ?_ _) ?_ _) ?_ _) ?_ _) ?_ _) ?_ _)) <;> first | exact Nat.le_refl _ | exact Nat.le_succ _))
      clear hK K
      try simp only [Act.put, List.setIfInBounds_toArray, List.set_cons_zero, List.set_cons_succ]
      refine wpAnyH_ready (rs := [7]) (by kernel_rfl) (by simp) (AllReadyH.cons (o := ?o_7_1027) ?ho_7_1027 (fun K hK => ?_) AllReadyH.nil)
      case ho_7_1027 => (simp only [List.getElem?_toArray, List.getElem?_cons_zero, List.getElem?_cons_succ]; rfl)
      focus (go_simp)
      focus (first | (go_at_call 11; (with_reducible refine (Hpk.out _).mono ?_); rintro e w8 ⟨rfl, rfl⟩) | (go_at_call 10; (with_reducible refine (Hcall.out _ ?_).mono ?_); exact (k6o (by with_reducible first | exact hS | assumption)); rintro e w9 ⟨A5, c5, rfl, ho9, hb9⟩; dsimp only [sesVal]; have hKK := Hmk.out w9 (btr (k6o (by with_reducible first | exact hS | assumption)) hb9); try (first | (have hB9 : Bk w9 wi.heap.size zeroC 33 := (by with_reducible exact HZ1.out.later hb9); have y0 := hB9.cell 0 _ rfl; have y1 := hB9.cell 1 _ rfl; have y2 := hB9.cell 2 _ rfl; have y3 := hB9.cell 3 _ rfl; have y4 := hB9.cell 4 _ rfl; have y5 := hB9.cell 5 _ rfl; have f0 := hB9.frozen 0; have f1 := hB9.frozen 1; have f2 := hB9.frozen 2; have f3 := hB9.frozen 3; have f4 := hB9.frozen 4; have f5 := hB9.frozen 5) | (have hB9 : Bk w9 (wi.heap.size + 1) zeroC 33 := (by with_reducible exact HZ2.out.later hb9); have y0 := hB9.cell 0 _ rfl; have y1 := hB9.cell 1 _ rfl; have y2 := hB9.cell 2 _ rfl; have y3 := hB9.cell 3 _ rfl; have y4 := hB9.cell 4 _ rfl; have y5 := hB9.cell 5 _ rfl; have f0 := hB9.frozen 0; have f1 := hB9.frozen 1; have f2 := hB9.frozen 2; have f3 := hB9.frozen 3; have f4 := hB9.frozen 4; have f5 := hB9.frozen 5))))
      focus (go_wp2_with fail)
      have hOld := hHeld
      clear hHeld
      refine hK.out _ _ ?hS_1028 (fun hHeld => ?rest_1028)
      case hS_1028 => ((try dsimp only); first | (with_reducible assumption) | (with_reducible exact HM1.out) | (with_reducible exact HM2.out) | (with_reducible exact HM3.out) | (with_reducible exact HM4.out) | (with_reducible exact Hmk.out _ (bal (k6o hKK) _)) | ((with_reducible refine Hmk.out _ (Below.setCell (Below.setCell (Below.setCell (Below.setCell (Below.setCell (Below.setCell (k6o hKK) ?_ _) ?_ _) ?_ _) ?_ _) ?_ _) ?_ _)) <;> first | exact Nat.le_refl _ | exact Nat.le_succ _))
      clear hK K hOld
      try simp only [Act.put, List.setIfInBounds_toArray, List.set_cons_zero, List.set_cons_succ]
      refine wpAnyH_take (i := 8) (oi := ?oi_1029) (v := ?v_1029) ?hi_1029 (by kernel_rfl) (by kernel_rfl) (by kernel_rfl) (fun _ _ _ h => h) (Or.inl ⟨?hw_1029, ?hy_1029⟩) (by assumption) ?rest_1029
      case hi_1029 => (simp only [List.getElem?_toArray, List.getElem?_cons_zero, List.getElem?_cons_succ]; rfl)
      case hw_1029 => rfl
      case hy_1029 => (intro w hSw; (try dsimp only at hSw); go_simp; try with_reducible rfl)
      try simp only [Act.put, List.setIfInBounds_toArray, List.set_cons_zero, List.set_cons_succ]
      refine wpAnyH_take (i := 9) (oi := ?oi_1030) (v := ?v_1030) ?hi_1030 (by kernel_rfl) (by kernel_rfl) (by kernel_rfl) (fun _ _ _ h => h) (Or.inl ⟨?hw_1030, ?hy_1030⟩) (by assumption) ?rest_1030
      case hi_1030 => (simp only [List.getElem?_toArray, List.getElem?_cons_zero, List.getElem?_cons_succ]; rfl)
      case hw_1030 => rfl
      case hy_1030 => (intro w hSw; (try dsimp only at hSw); go_simp; try with_reducible rfl)
      try simp only [Act.put, List.setIfInBounds_toArray, List.set_cons_zero, List.set_cons_succ]
      refine wpAnyH_take (i := 10) (oi := ?oi_1031) (v := ?v_1031) ?hi_1031 (by kernel_rfl) (by kernel_rfl) (by kernel_rfl) (fun _ _ _ h => h) (Or.inl ⟨?hw_1031, ?hy_1031⟩) (by assumption) ?rest_1031
      case hi_1031 => (simp only [List.getElem?_toArray, List.getElem?_cons_zero, List.getElem?_cons_succ]; rfl)
      case hw_1031 => rfl
      case hy_1031 => (intro w hSw; (try dsimp only at hSw); go_simp; try with_reducible rfl)
      try simp only [Act.put, List.setIfInBounds_toArray, List.set_cons_zero, List.set_cons_succ]
      refine wpAnyH_take (i := 11) (oi := ?oi_1032) (v := ?v_1032) ?hi_1032 (by kernel_rfl) (by kernel_rfl) (by kernel_rfl) (fun _ _ _ h => h) (Or.inl ⟨?hw_1032, ?hy_1032⟩) (by assumption) ?rest_1032
      case hi_1032 => (simp only [List.getElem?_toArray, List.getElem?_cons_zero, List.getElem?_cons_succ]; rfl)
      case hw_1032 => rfl
      case hy_1032 => (intro w hSw; (try dsimp only at hSw); go_simp; try with_reducible rfl)
      try simp only [Act.put, List.setIfInBounds_toArray, List.set_cons_zero, List.set_cons_succ]
      refine wpAnyH_take (i := 12) (oi := ?oi_1033) (v := ?v_1033) ?hi_1033 (by kernel_rfl) (by kernel_rfl) (by kernel_rfl) (fun _ _ _ h => h) (Or.inl ⟨?hw_1033, ?hy_1033⟩) (by assumption) ?rest_1033
      case hi_1033 => (simp only [List.getElem?_toArray, List.getElem?_cons_zero, List.getElem?_cons_succ]; rfl)
      case hw_1033 => rfl
      case hy_1033 => (intro w hSw; (try dsimp only at hSw); go_simp; try with_reducible rfl)
      try simp only [Act.put, List.setIfInBounds_toArray, List.set_cons_zero, List.set_cons_succ]
      refine wpAnyH_ready (rs := [14]) (by kernel_rfl) (by simp) (AllReadyH.cons (o := ?o_14_1034) ?ho_14_1034 (fun K hK => ?_) AllReadyH.nil)
      case ho_14_1034 => (simp only [List.getElem?_toArray, List.getElem?_cons_zero, List.getElem?_cons_succ]; rfl)
      clear hHeld
      focus (go_simp)
      refine hK.out _ _ ?hS_1035 (fun hHeld => ?rest_1035)
      case hS_1035 => ((try dsimp only); first | (with_reducible assumption) | (with_reducible exact HM1.out) | (with_reducible exact HM2.out) | (with_reducible exact HM3.out) | (with_reducible exact HM4.out) | (with_reducible exact Hmk.out _ (bal (k6o hKK) _)) | ((with_reducible refine Hmk.out _ (Below.setCell (Below.setCell (Below.setCell (Below.setCell (Below.setCell (Below.setCell (k6o hKK) ?_ _) ?_ _) ?_ _) ?_ _) ?_ _) ?_ _)) <;> first | exact Nat.le_refl _ | exact Nat.le_succ _))
      clear hK K
      try simp only [Act.put, List.setIfInBounds_toArray, List.set_cons_zero, List.set_cons_succ]
      refine wpAnyH_take (i := 15) (oi := ?oi_1036) (v := ?v_1036) ?hi_1036 (by kernel_rfl) (by kernel_rfl) (by kernel_rfl) (fun _ _ _ h => h) (Or.inl ⟨?hw_1036, ?hy_1036⟩) (by assumption) ?rest_1036
      case hi_1036 => (simp only [List.getElem?_toArray, List.getElem?_cons_zero, List.getElem?_cons_succ]; rfl)
      case hw_1036 => rfl
      case hy_1036 => (intro w hSw; (try dsimp only at hSw); go_simp; try with_reducible rfl)
      try simp only [Act.put, List.setIfInBounds_toArray, List.set_cons_zero, List.set_cons_succ]
      refine wpAnyH_take (i := 16) (oi := ?oi_1037) (v := ?v_1037) ?hi_1037 (by kernel_rfl) (by kernel_rfl) (by kernel_rfl) (fun _ _ _ h => h) (Or.inl ⟨?hw_1037, ?hy_1037⟩) (by assumption) ?rest_1037
      case hi_1037 => (simp only [List.getElem?_toArray, List.getElem?_cons_zero, List.getElem?_cons_succ]; rfl)
      case hw_1037 => rfl
      case hy_1037 => (intro w hSw; (try dsimp only at hSw); go_simp; try with_reducible rfl)
      try simp only [Act.put, List.setIfInBounds_toArray, List.set_cons_zero, List.set_cons_succ]
      refine wpAnyH_take (i := 17) (oi := ?oi_1038) (v := ?v_1038) ?hi_1038 (by kernel_rfl) (by kernel_rfl) (by kernel_rfl) (fun _ _ _ h => h) (Or.inl ⟨?hw_1038, ?hy_1038⟩) (by assumption) ?rest_1038
      case hi_1038 => (simp only [List.getElem?_toArray, List.getElem?_cons_zero, List.getElem?_cons_succ]; rfl)
      case hw_1038 => rfl
      case hy_1038 => (intro w hSw; (try dsimp only at hSw); go_simp; try with_reducible rfl)
      try simp only [Act.put, List.setIfInBounds_toArray, List.set_cons_zero, List.set_cons_succ]
      refine wpAnyH_done (by kernel_rfl) ?_ _
      refine NoPanic.normal ?_
      rotate_left
      clear hHeld
      focus (go_simp)
      refine hK.out _ _ ?hS_1039 (fun hHeld => ?rest_1039)
      case hS_1039 => ((try dsimp only); first | (with_reducible assumption) | (with_reducible exact HM1.out) | (with_reducible exact HM2.out) | (with_reducible exact HM3.out) | (with_reducible exact HM4.out) | (with_reducible exact Hmk.out _ (bal (k6o hKK) _)) | ((with_reducible refine Hmk.out _ (Below.setCell (Below.setCell (Below.setCell (Below.setCell (Below.setCell (Below.setCell (k6o hKK) ?_ _) ?_ _) ?_ _) ?_ _) ?_ _) ?_ _)) <;> first | exact Nat.le_refl _ | exact Nat.le_succ _))
      clear hK K
      try simp only [Act.put, List.setIfInBounds_toArray, List.set_cons_zero, List.set_cons_succ]
      refine wpAnyH_ready (rs := [6]) (by kernel_rfl) (by simp) (AllReadyH.cons (o := ?o_6_1040) ?ho_6_1040 (fun K hK => ?_) AllReadyH.nil)
      case ho_6_1040 => (simp only [List.getElem?_toArray, List.getElem?_cons_zero, List.getElem?_cons_succ]; rfl)
      clear hHeld
      focus (go_simp)
      refine hK.out _ _ ?hS_1041 (fun hHeld => ?rest_1041)
      case hS_1041 => ((try dsimp only); first | (with_reducible assumption) | (with_reducible exact HM1.out) | (with_reducible exact HM2.out) | (with_reducible exact HM3.out) | (with_reducible exact HM4.out) | (with_reducible exact Hmk.out _ (bal (k6o hKK) _)) | ((with_reducible refine Hmk.out _ (Below.setCell (Below.setCell (Below.setCell (Below.setCell (Below.setCell (Below.setCell (k6o hKK) ?_ _) ?_ _) ?_ _) ?_ _) ?_ _) ?_ _)) <;> first | exact Nat.le_refl _ | exact Nat.le_succ _))
      clear hK K
      try simp only [Act.put, List.setIfInBounds_toArray, List.set_cons_zero, List.set_cons_succ]
      refine wpAnyH_ready (rs := [7]) (by kernel_rfl) (by simp) (AllReadyH.cons (o := ?o_7_1042) ?ho_7_1042 (fun K hK => ?_) AllReadyH.nil)
      case ho_7_1042 => (simp only [List.getElem?_toArray, List.getElem?_cons_zero, List.getElem?_cons_succ]; rfl)
      focus (go_simp)
      focus (first | (go_at_call 11; (with_reducible refine (Hpk.out _).mono ?_); rintro e w8 ⟨rfl, rfl⟩) | (go_at_call 10; (with_reducible refine (Hcall.out _ ?_).mono ?_); exact (k6o (by with_reducible first | exact hS | assumption)); rintro e w9 ⟨A5, c5, rfl, ho9, hb9⟩; dsimp only [sesVal]; have hKK := Hmk.out w9 (btr (k6o (by with_reducible first | exact hS | assumption)) hb9); try (first | (have hB9 : Bk w9 wi.heap.size zeroC 33 := (by with_reducible exact HZ1.out.later hb9); have y0 := hB9.cell 0 _ rfl; have y1 := hB9.cell 1 _ rfl; have y2 := hB9.cell 2 _ rfl; have y3 := hB9.cell 3 _ rfl; have y4 := hB9.cell 4 _ rfl; have y5 := hB9.cell 5 _ rfl; have f0 := hB9.frozen 0; have f1 := hB9.frozen 1; have f2 := hB9.frozen 2; have f3 := hB9.frozen 3; have f4 := hB9.frozen 4; have f5 := hB9.frozen 5) | (have hB9 : Bk w9 (wi.heap.size + 1) zeroC 33 := (by with_reducible exact HZ2.out.later hb9); have y0 := hB9.cell 0 _ rfl; have y1 := hB9.cell 1 _ rfl; have y2 := hB9.cell 2 _ rfl; have y3 := hB9.cell 3 _ rfl; have y4 := hB9.cell 4 _ rfl; have y5 := hB9.cell 5 _ rfl; have f0 := hB9.frozen 0; have f1 := hB9.frozen 1; have f2 := hB9.frozen 2; have f3 := hB9.frozen 3; have f4 := hB9.frozen 4; have f5 := hB9.frozen 5))))
      focus (go_wp2_with fail)
      have hOld := hHeld
      clear hHeld
      refine hK.out _ _ ?hS_1043 (fun hHeld => ?rest_1043)
      case hS_1043 => ((try dsimp only); first | (with_reducible assumption) | (with_reducible exact HM1.out) | (with_reducible exact HM2.out) | (with_reducible exact HM3.out) | (with_reducible exact HM4.out) | (with_reducible exact Hmk.out _ (bal (k6o hKK) _)) | ((with_reducible refine Hmk.out _ (Below.setCell (Below.setCell (Below.setCell (Below.setCell (Below.setCell (Below.setCell (k6o hKK) ?_ _) ?_ _) ?_ _) ?_ _) ?_ _) ?_ _)) <;> first | exact Nat.le_refl _ | exact Nat.le_succ _))
      clear hK K hOld
      try simp only [Act.put, List.setIfInBounds_toArray, List.set_cons_zero, List.set_cons_succ]
      refine wpAnyH_take (i := 8) (oi := ?oi_1044) (v := ?v_1044) ?hi_1044 (by kernel_rfl) (by kernel_rfl) (by kernel_rfl) (fun _ _ _ h => h) (Or.inl ⟨?hw_1044, ?hy_1044⟩) (by assumption) ?rest_1044
      case hi_1044 => (simp only [List.getElem?_toArray, List.getElem?_cons_zero, List.getElem?_cons_succ]; rfl)
      case hw_1044 => rfl
      case hy_1044 => (intro w hSw; (try dsimp only at hSw); go_simp; try with_reducible rfl)
      try simp only [Act.put, List.setIfInBounds_toArray, List.set_cons_zero, List.set_cons_succ]
      refine wpAnyH_take (i := 9) (oi := ?oi_1045) (v := ?v_1045) ?hi_1045 (by kernel_rfl) (by kernel_rfl) (by kernel_rfl) (fun _ _ _ h => h) (Or.inl ⟨?hw_1045, ?hy_1045⟩) (by assumption) ?rest_1045
      case hi_1045 => (simp only [List.getElem?_toArray, List.getElem?_cons_zero, List.getElem?_cons_succ]; rfl)
      case hw_1045 => rfl
      case hy_1045 => (intro w hSw; (try dsimp only at hSw); go_simp; try with_reducible rfl)
      try simp only [Act.put, List.setIfInBounds_toArray, List.set_cons_zero, List.set_cons_succ]
      refine wpAnyH_take (i := 10) (oi := ?oi_1046) (v := ?v_1046) ?hi_1046 (by kernel_rfl) (by kernel_rfl) (by kernel_rfl) (fun _ _ _ h => h) (Or.inl ⟨?hw_1046, ?hy_1046⟩) (by assumption) ?rest_1046
      case hi_1046 => (simp only [List.getElem?_toArray, List.getElem?_cons_zero, List.getElem?_cons_succ]; rfl)
      case hw_1046 => rfl
      case hy_1046 => (intro w hSw; (try dsimp only at hSw); go_simp; try with_reducible rfl)
      try simp only [Act.put, List.setIfInBounds_toArray, List.set_cons_zero, List.set_cons_succ]
      refine wpAnyH_take (i := 11) (oi := ?oi_1047) (v := ?v_1047) ?hi_1047 (by kernel_rfl) (by kernel_rfl) (by kernel_rfl) (fun _ _ _ h => h) (Or.inl ⟨?hw_1047, ?hy_1047⟩) (by assumption) ?rest_1047
      case hi_1047 => (simp only [List.getElem?_toArray, List.getElem?_cons_zero, List.getElem?_cons_succ]; rfl)
      case hw_1047 => rfl
      case hy_1047 => (intro w hSw; (try dsimp only at hSw); go_simp; try with_reducible rfl)
      try simp only [Act.put, List.setIfInBounds_toArray, List.set_cons_zero, List.set_cons_succ]
      refine wpAnyH_take (i := 12) (oi := ?oi_1048) (v := ?v_1048) ?hi_1048 (by kernel_rfl) (by kernel_rfl) (by kernel_rfl) (fun _ _ _ h => h) (Or.inl ⟨?hw_1048, ?hy_1048⟩) (by assumption) ?rest_1048
      case hi_1048 => (simp only [List.getElem?_toArray, List.getElem?_cons_zero, List.getElem?_cons_succ]; rfl)
      case hw_1048 => rfl
      case hy_1048 => (intro w hSw; (try dsimp only at hSw); go_simp; try with_reducible rfl)
      try simp only [Act.put, List.setIfInBounds_toArray, List.set_cons_zero, List.set_cons_succ]
      refine wpAnyH_ready (rs := [14]) (by kernel_rfl) (by simp) (AllReadyH.cons (o := ?o_14_1049) ?ho_14_1049 (fun K hK => ?_) AllReadyH.nil)
      case ho_14_1049 => (simp only [List.getElem?_toArray, List.getElem?_cons_zero, List.getElem?_cons_succ]; rfl)
      clear hHeld
      focus (go_simp)
      refine hK.out _ _ ?hS_1050 (fun hHeld => ?rest_1050)
      case hS_1050 => ((try dsimp only); first | (with_reducible assumption) | (with_reducible exact HM1.out) | (with_reducible exact HM2.out) | (with_reducible exact HM3.out) | (with_reducible exact HM4.out) | (with_reducible exact Hmk.out _ (bal (k6o hKK) _)) | ((with_reducible refine Hmk.out _ (Below.setCell (Below.setCell (Below.setCell (Below.setCell (Below.setCell (Below.setCell (k6o hKK) ?_ _) ?_ _) ?_ _) ?_ _) ?_ _) ?_ _)) <;> first | exact Nat.le_refl _ | exact Nat.le_succ _))
      clear hK K
      try simp only [Act.put, List.setIfInBounds_toArray, List.set_cons_zero, List.set_cons_succ]
      refine wpAnyH_take (i := 15) (oi := ?oi_1051) (v := ?v_1051) ?hi_1051 (by kernel_rfl) (by kernel_rfl) (by kernel_rfl) (fun _ _ _ h => h) (Or.inl ⟨?hw_1051, ?hy_1051⟩) (by assumption) ?rest_1051
      case hi_1051 => (simp only [List.getElem?_toArray, List.getElem?_cons_zero, List.getElem?_cons_succ]; rfl)
      case hw_1051 => rfl
      case hy_1051 => (intro w hSw; (try dsimp only at hSw); go_simp; try with_reducible rfl)
      try simp only [Act.put, List.setIfInBounds_toArray, List.set_cons_zero, List.set_cons_succ]
      refine wpAnyH_take (i := 16) (oi := ?oi_1052) (v := ?v_1052) ?hi_1052 (by kernel_rfl) (by kernel_rfl) (by kernel_rfl) (fun _ _ _ h => h) (Or.inl ⟨?hw_1052, ?hy_1052⟩) (by assumption) ?rest_1052
      case hi_1052 => (simp only [List.getElem?_toArray, List.getElem?_cons_zero, List.getElem?_cons_succ]; rfl)
      case hw_1052 => rfl
      case hy_1052 => (intro w hSw; (try dsimp only at hSw); go_simp; try with_reducible rfl)
      try simp only [Act.put, List.setIfInBounds_toArray, List.set_cons_zero, List.set_cons_succ]
      refine wpAnyH_take (i := 17) (oi := ?oi_1053) (v := ?v_1053) ?hi_1053 (by kernel_rfl) (by kernel_rfl) (by kernel_rfl) (fun _ _ _ h => h) (Or.inl ⟨?hw_1053, ?hy_1053⟩) (by assumption) ?rest_1053
      case hi_1053 => (simp only [List.getElem?_toArray, List.getElem?_cons_zero, List.getElem?_cons_succ]; rfl)
      case hw_1053 => rfl
      case hy_1053 => (intro w hSw; (try dsimp only at hSw); go_simp; try with_reducible rfl)
      try simp only [Act.put, List.setIfInBounds_toArray, List.set_cons_zero, List.set_cons_succ]
      refine wpAnyH_done (by kernel_rfl) ?_ _
      refine NoPanic.normal ?_
      rotate_left
      clear hHeld
      focus (go_simp)
      refine hK.out _ _ ?hS_1054 (fun hHeld => ?rest_1054)
      case hS_1054 => ((try dsimp only); first | (with_reducible assumption) | (with_reducible exact HM1.out) | (with_reducible exact HM2.out) | (with_reducible exact HM3.out) | (with_reducible exact HM4.out) | (with_reducible exact Hmk.out _ (bal (k6o hKK) _)) | ((with_reducible refine Hmk.out _ (Below.setCell (Below.setCell (Below.setCell (Below.setCell (Below.setCell (Below.setCell (k6o hKK) ?_ _) ?_ _) ?_ _) ?_ _) ?_ _) ?_ _)) <;> first | exact Nat.le_refl _ | exact Nat.le_succ _))
      clear hK K
      try simp only [Act.put, List.setIfInBounds_toArray, List.set_cons_zero, List.set_cons_succ]
      refine wpAnyH_ready (rs := [4]) (by kernel_rfl) (by simp) (AllReadyH.cons (o := ?o_4_1055) ?ho_4_1055 (fun K hK => ?_) AllReadyH.nil)
      case ho_4_1055 => (simp only [List.getElem?_toArray, List.getElem?_cons_zero, List.getElem?_cons_succ]; rfl)
      focus (go_simp)
      focus (first | (go_at_call 11; (with_reducible refine (Hpk.out _).mono ?_); rintro e w8 ⟨rfl, rfl⟩) | (go_at_call 10; (with_reducible refine (Hcall.out _ ?_).mono ?_); exact (k6o (by with_reducible first | exact hS | assumption)); rintro e w9 ⟨A5, c5, rfl, ho9, hb9⟩; dsimp only [sesVal]; have hKK := Hmk.out w9 (btr (k6o (by with_reducible first | exact hS | assumption)) hb9); try (first | (have hB9 : Bk w9 wi.heap.size zeroC 33 := (by with_reducible exact HZ1.out.later hb9); have y0 := hB9.cell 0 _ rfl; have y1 := hB9.cell 1 _ rfl; have y2 := hB9.cell 2 _ rfl; have y3 := hB9.cell 3 _ rfl; have y4 := hB9.cell 4 _ rfl; have y5 := hB9.cell 5 _ rfl; have f0 := hB9.frozen 0; have f1 := hB9.frozen 1; have f2 := hB9.frozen 2; have f3 := hB9.frozen 3; have f4 := hB9.frozen 4; have f5 := hB9.frozen 5) | (have hB9 : Bk w9 (wi.heap.size + 1) zeroC 33 := (by with_reducible exact HZ2.out.later hb9); have y0 := hB9.cell 0 _ rfl; have y1 := hB9.cell 1 _ rfl; have y2 := hB9.cell 2 _ rfl; have y3 := hB9.cell 3 _ rfl; have y4 := hB9.cell 4 _ rfl; have y5 := hB9.cell 5 _ rfl; have f0 := hB9.frozen 0; have f1 := hB9.frozen 1; have f2 := hB9.frozen 2; have f3 := hB9.frozen 3; have f4 := hB9.frozen 4; have f5 := hB9.frozen 5))))
      focus (go_wp2_with fail)
      have hOld := hHeld
      clear hHeld
      refine hK.out _ _ ?hS_1056 (fun hHeld => ?rest_1056)
      case hS_1056 => ((try dsimp only); first | (with_reducible assumption) | (with_reducible exact HM1.out) | (with_reducible exact HM2.out) | (with_reducible exact HM3.out) | (with_reducible exact HM4.out) | (with_reducible exact Hmk.out _ (bal (k6o hKK) _)) | ((with_reducible refine Hmk.out _ (Below.setCell (Below.setCell (Below.setCell (Below.setCell (Below.setCell (Below.setCell (k6o hKK) ?_ _) ?_ _) ?_ _) ?_ _) ?_ _) ?_ _)) <;> first | exact Nat.le_refl _ | exact Nat.le_succ _))
      clear hK K hOld
      try simp only [Act.put, List.setIfInBounds_toArray, List.set_cons_zero, List.set_cons_succ]
      refine wpAnyH_take (i := 5) (oi := ?oi_1057) (v := ?v_1057) ?hi_1057 (by kernel_rfl) (by kernel_rfl) (by kernel_rfl) (fun _ _ _ h => h) (Or.inl ⟨?hw_1057, ?hy_1057⟩) (by assumption) ?rest_1057
      case hi_1057 => (simp only [List.getElem?_toArray, List.getElem?_cons_zero, List.getElem?_cons_succ]; rfl)
      case hw_1057 => rfl
      case hy_1057 => (intro w hSw; (try dsimp only at hSw); go_simp; try with_reducible rfl)
      try simp only [Act.put, List.setIfInBounds_toArray, List.set_cons_zero, List.set_cons_succ]
      refine wpAnyH_ready (rs := [6]) (by kernel_rfl) (by simp) (AllReadyH.cons (o := ?o_6_1058) ?ho_6_1058 (fun K hK => ?_) AllReadyH.nil)
      case ho_6_1058 => (simp only [List.getElem?_toArray, List.getElem?_cons_zero, List.getElem?_cons_succ]; rfl)
      clear hHeld
      focus (go_simp)
      refine hK.out _ _ ?hS_1059 (fun hHeld => ?rest_1059)
      case hS_1059 => ((try dsimp only); first | (with_reducible assumption) | (with_reducible exact HM1.out) | (with_reducible exact HM2.out) | (with_reducible exact HM3.out) | (with_reducible exact HM4.out) | (with_reducible exact Hmk.out _ (bal (k6o hKK) _)) | ((with_reducible refine Hmk.out _ (Below.setCell (Below.setCell (Below.setCell (Below.setCell (Below.setCell (Below.setCell (k6o hKK) ?_ _) ?_ _) ?_ _) ?_ _) ?_ _) ?_ _)) <;> first | exact Nat.le_refl _ | exact Nat.le_succ _))
      clear hK K
      try simp only [Act.put, List.setIfInBounds_toArray, List.set_cons_zero, List.set_cons_succ]
      refine wpAnyH_ready (rs := [7]) (by kernel_rfl) (by simp) (AllReadyH.cons (o := ?o_7_1060) ?ho_7_1060 (fun K hK => ?_) AllReadyH.nil)
      case ho_7_1060 => (simp only [List.getElem?_toArray, List.getElem?_cons_zero, List.getElem?_cons_succ]; rfl)
      focus (go_simp)
      focus (first | (go_at_call 11; (with_reducible refine (Hpk.out _).mono ?_); rintro e w8 ⟨rfl, rfl⟩) | (go_at_call 10; (with_reducible refine (Hcall.out _ ?_).mono ?_); exact (k6o (by with_reducible first | exact hS | assumption)); rintro e w9 ⟨A5, c5, rfl, ho9, hb9⟩; dsimp only [sesVal]; have hKK := Hmk.out w9 (btr (k6o (by with_reducible first | exact hS | assumption)) hb9); try (first | (have hB9 : Bk w9 wi.heap.size zeroC 33 := (by with_reducible exact HZ1.out.later hb9); have y0 := hB9.cell 0 _ rfl; have y1 := hB9.cell 1 _ rfl; have y2 := hB9.cell 2 _ rfl; have y3 := hB9.cell 3 _ rfl; have y4 := hB9.cell 4 _ rfl; have y5 := hB9.cell 5 _ rfl; have f0 := hB9.frozen 0; have f1 := hB9.frozen 1; have f2 := hB9.frozen 2; have f3 := hB9.frozen 3; have f4 := hB9.frozen 4; have f5 := hB9.frozen 5) | (have hB9 : Bk w9 (wi.heap.size + 1) zeroC 33 := (by with_reducible exact HZ2.out.later hb9); have y0 := hB9.cell 0 _ rfl; have y1 := hB9.cell 1 _ rfl; have y2 := hB9.cell 2 _ rfl; have y3 := hB9.cell 3 _ rfl; have y4 := hB9.cell 4 _ rfl; have y5 := hB9.cell 5 _ rfl; have f0 := hB9.frozen 0; have f1 := hB9.frozen 1; have f2 := hB9.frozen 2; have f3 := hB9.frozen 3; have f4 := hB9.frozen 4; have f5 := hB9.frozen 5))))
      focus (go_wp2_with fail)
      have hOld := hHeld
      clear hHeld
      refine hK.out _ _ ?hS_1061 (fun hHeld => ?rest_1061)
      case hS_1061 => ((try dsimp only); first | (with_reducible assumption) | (with_reducible exact HM1.out) | (with_reducible exact HM2.out) | (with_reducible exact HM3.out) | (with_reducible exact HM4.out) | (with_reducible exact Hmk.out _ (bal (k6o hKK) _)) | ((with_reducible refine Hmk.out _ (Below.setCell (Below.setCell (Below.setCell (Below.setCell (Below.setCell (Below.setCell (k6o hKK) ?_ _) ?_ _) ?_ _) ?_ _) ?_ _) ?_ _)) <;> first | exact Nat.le_refl _ | exact Nat.le_succ _))
      clear hK K hOld
      try simp only [Act.put, List.setIfInBounds_toArray, List.set_cons_zero, List.set_cons_succ]
      refine wpAnyH_take (i := 8) (oi := ?oi_1062) (v := ?v_1062) ?hi_1062 (by kernel_rfl) (by kernel_rfl) (by kernel_rfl) (fun _ _ _ h => h) (Or.inl ⟨?hw_1062, ?hy_1062⟩) (by assumption) ?rest_1062
      case hi_1062 => (simp only [List.getElem?_toArray, List.getElem?_cons_zero, List.getElem?_cons_succ]; rfl)
      case hw_1062 => rfl
      case hy_1062 => (intro w hSw; (try dsimp only at hSw); go_simp; try with_reducible rfl)
      try simp only [Act.put, List.setIfInBounds_toArray, List.set_cons_zero, List.set_cons_succ]
      refine wpAnyH_take (i := 9) (oi := ?oi_1063) (v := ?v_1063) ?hi_1063 (by kernel_rfl) (by kernel_rfl) (by kernel_rfl) (fun _ _ _ h => h) (Or.inl ⟨?hw_1063, ?hy_1063⟩) (by assumption) ?rest_1063
      case hi_1063 => (simp only [List.getElem?_toArray, List.getElem?_cons_zero, List.getElem?_cons_succ]; rfl)
      case hw_1063 => rfl
      case hy_1063 => (intro w hSw; (try dsimp only at hSw); go_simp; try with_reducible rfl)
      try simp only [Act.put, List.setIfInBounds_toArray, List.set_cons_zero, List.set_cons_succ]
      refine wpAnyH_take (i := 10) (oi := ?oi_1064) (v := ?v_1064) ?hi_1064 (by kernel_rfl) (by kernel_rfl) (by kernel_rfl) (fun _ _ _ h => h) (Or.inl ⟨?hw_1064, ?hy_1064⟩) (by assumption) ?rest_1064
      case hi_1064 => (simp only [List.getElem?_toArray, List.getElem?_cons_zero, List.getElem?_cons_succ]; rfl)
      case hw_1064 => rfl
      case hy_1064 => (intro w hSw; (try dsimp only at hSw); go_simp; try with_reducible rfl)
      try simp only [Act.put, List.setIfInBounds_toArray, List.set_cons_zero, List.set_cons_succ]
      refine wpAnyH_take (i := 11) (oi := ?oi_1065) (v := ?v_1065) ?hi_1065 (by kernel_rfl) (by kernel_rfl) (by kernel_rfl) (fun _ _ _ h => h) (Or.inl ⟨?hw_1065, ?hy_1065⟩) (by assumption) ?rest_1065
      case hi_1065 => (simp only [List.getElem?_toArray, List.getElem?_cons_zero, List.getElem?_cons_succ]; rfl)
      case hw_1065 => rfl
      case hy_1065 => (intro w hSw; (try dsimp only at hSw); go_simp; try with_reducible rfl)
      try simp only [Act.put, List.setIfInBounds_toArray, List.set_cons_zero, List.set_cons_succ]
      refine wpAnyH_take (i := 12) (oi := ?oi_1066) (v := ?v_1066) ?hi_1066 (by kernel_rfl) (by kernel_rfl) (by kernel_rfl) (fun _ _ _ h => h) (Or.inl ⟨?hw_1066, ?hy_1066⟩) (by assumption) ?rest_1066
      case hi_1066 => (simp only [List.getElem?_toArray, List.getElem?_cons_zero, List.getElem?_cons_succ]; rfl)
      case hw_1066 => rfl
      case hy_1066 => (intro w hSw; (try dsimp only at hSw); go_simp; try with_reducible rfl)
      try simp only [Act.put, List.setIfInBounds_toArray, List.set_cons_zero, List.set_cons_succ]
      refine wpAnyH_ready (rs := [14]) (by kernel_rfl) (by simp) (AllReadyH.cons (o := ?o_14_1067) ?ho_14_1067 (fun K hK => ?_) AllReadyH.nil)
      case ho_14_1067 => (simp only [List.getElem?_toArray, List.getElem?_cons_zero, List.getElem?_cons_succ]; rfl)
      clear hHeld
      focus (go_simp)
      refine hK.out _ _ ?hS_1068 (fun hHeld => ?rest_1068)
      case hS_1068 => ((try dsimp only); first | (with_reducible assumption) | (with_reducible exact HM1.out) | (with_reducible exact HM2.out) | (with_reducible exact HM3.out) | (with_reducible exact HM4.out) | (with_reducible exact Hmk.out _ (bal (k6o hKK) _)) | ((with_reducible refine Hmk.out _ (Below.setCell (Below.setCell (Below.setCell (Below.setCell (Below.setCell (Below.setCell (k6o hKK) ?_ _) ?_ _) ?_ _) ?_ _) ?_ _) ?_ _)) <;> first | exact Nat.le_refl _ | exact Nat.le_succ _))
      clear hK K
      try simp only [Act.put, List.setIfInBounds_toArray, List.set_cons_zero, List.set_cons_succ]
      refine wpAnyH_take (i := 15) (oi := ?oi_1069) (v := ?v_1069) ?hi_1069 (by kernel_rfl) (by kernel_rfl) (by kernel_rfl) (fun _ _ _ h => h) (Or.inl ⟨?hw_1069, ?hy_1069⟩) (by assumption) ?rest_1069
      case hi_1069 => (simp only [List.getElem?_toArray, List.getElem?_cons_zero, List.getElem?_cons_succ]; rfl)
      case hw_1069 => rfl
      case hy_1069 => (intro w hSw; (try dsimp only at hSw); go_simp; try with_reducible rfl)
      try simp only [Act.put, List.setIfInBounds_toArray, List.set_cons_zero, List.set_cons_succ]
      refine wpAnyH_take (i := 16) (oi := ?oi_1070) (v := ?v_1070) ?hi_1070 (by kernel_rfl) (by kernel_rfl) (by kernel_rfl) (fun _ _ _ h => h) (Or.inl ⟨?hw_1070, ?hy_1070⟩) (by assumption) ?rest_1070
      case hi_1070 => (simp only [List.getElem?_toArray, List.getElem?_cons_zero, List.getElem?_cons_succ]; rfl)
      case hw_1070 => rfl
      case hy_1070 => (intro w hSw; (try dsimp only at hSw); go_simp; try with_reducible rfl)
      try simp only [Act.put, List.setIfInBounds_toArray, List.set_cons_zero, List.set_cons_succ]
      refine wpAnyH_take (i := 17) (oi := ?oi_1071) (v := ?v_1071) ?hi_1071 (by kernel_rfl) (by kernel_rfl) (by kernel_rfl) (fun _ _ _ h => h) (Or.inl ⟨?hw_1071, ?hy_1071⟩) (by assumption) ?rest_1071
      case hi_1071 => (simp only [List.getElem?_toArray, List.getElem?_cons_zero, List.getElem?_cons_succ]; rfl)
      case hw_1071 => rfl
      case hy_1071 => (intro w hSw; (try dsimp only at hSw); go_simp; try with_reducible rfl)
      try simp only [Act.put, List.setIfInBounds_toArray, List.set_cons_zero, List.set_cons_succ]
      refine wpAnyH_done (by kernel_rfl) ?_ _
      refine NoPanic.normal ?_
      rotate_left
      focus (go_simp)
      focus (first | (go_at_call 11; (with_reducible refine (Hpk.out _).mono ?_); rintro e w8 ⟨rfl, rfl⟩) | (go_at_call 10; (with_reducible refine (Hcall.out _ ?_).mono ?_); exact (k6o (by with_reducible first | exact hS | assumption)); rintro e w9 ⟨A5, c5, rfl, ho9, hb9⟩; dsimp only [sesVal]; have hKK := Hmk.out w9 (btr (k6o (by with_reducible first | exact hS | assumption)) hb9); try (first | (have hB9 : Bk w9 wi.heap.size zeroC 33 := (by with_reducible exact HZ1.out.later hb9); have y0 := hB9.cell 0 _ rfl; have y1 := hB9.cell 1 _ rfl; have y2 := hB9.cell 2 _ rfl; have y3 := hB9.cell 3 _ rfl; have y4 := hB9.cell 4 _ rfl; have y5 := hB9.cell 5 _ rfl; have f0 := hB9.frozen 0; have f1 := hB9.frozen 1; have f2 := hB9.frozen 2; have f3 := hB9.frozen 3; have f4 := hB9.frozen 4; have f5 := hB9.frozen 5) | (have hB9 : Bk w9 (wi.heap.size + 1) zeroC 33 := (by with_reducible exact HZ2.out.later hb9); have y0 := hB9.cell 0 _ rfl; have y1 := hB9.cell 1 _ rfl; have y2 := hB9.cell 2 _ rfl; have y3 := hB9.cell 3 _ rfl; have y4 := hB9.cell 4 _ rfl; have y5 := hB9.cell 5 _ rfl; have f0 := hB9.frozen 0; have f1 := hB9.frozen 1; have f2 := hB9.frozen 2; have f3 := hB9.frozen 3; have f4 := hB9.frozen 4; have f5 := hB9.frozen 5))))
      focus (go_wp2_with fail)
      have hOld := hHeld
      clear hHeld
      refine hK.out _ _ ?hS_1072 (fun hHeld => ?rest_1072)
      case hS_1072 => ((try dsimp only); first | (with_reducible assumption) | (with_reducible exact HM1.out) | (with_reducible exact HM2.out) | (with_reducible exact HM3.out) | (with_reducible exact HM4.out) | (with_reducible exact Hmk.out _ (bal (k6o hKK) _)) | ((with_reducible refine Hmk.out _ (Below.setCell (Below.setCell (Below.setCell (Below.setCell (Below.setCell (Below.setCell (k6o hKK) ?_ _) ?_ _) ?_ _) ?_ _) ?_ _) ?_ _)) <;> first | exact Nat.le_refl _ | exact Nat.le_succ _))
      clear hK K hOld
      try simp only [Act.put, List.setIfInBounds_toArray, List.set_cons_zero, List.set_cons_succ]
      refine wpAnyH_ready (rs := [2, 13]) (by kernel_rfl) (by simp) (AllReadyH.cons (o := ?o_2_1073) ?ho_2_1073 (fun K hK => ?_) (AllReadyH.cons (o := ?o_13_1073) ?ho_13_1073 (fun K hK => ?_) AllReadyH.nil))
      case ho_2_1073 => (simp only [List.getElem?_toArray, List.getElem?_cons_zero, List.getElem?_cons_succ]; rfl)
      case ho_13_1073 => (simp only [List.getElem?_toArray, List.getElem?_cons_zero, List.getElem?_cons_succ]; rfl)
      clear hHeld
      focus (go_simp)
      refine hK.out _ _ ?hS_1074 (fun hHeld => ?rest_1074)
      case hS_1074 => ((try dsimp only); first | (with_reducible assumption) | (with_reducible exact HM1.out) | (with_reducible exact HM2.out) | (with_reducible exact HM3.out) | (with_reducible exact HM4.out) | (with_reducible exact Hmk.out _ (bal (k6o hKK) _)) | ((with_reducible refine Hmk.out _ (Below.setCell (Below.setCell (Below.setCell (Below.setCell (Below.setCell (Below.setCell (k6o hKK) ?_ _) ?_ _) ?_ _) ?_ _) ?_ _) ?_ _)) <;> first | exact Nat.le_refl _ | exact Nat.le_succ _))
      clear hK K
      try simp only [Act.put, List.setIfInBounds_toArray, List.set_cons_zero, List.set_cons_succ]
      refine wpAnyH_take (i := 5) (oi := ?oi_1075) (v := ?v_1075) ?hi_1075 (by kernel_rfl) (by kernel_rfl) (by kernel_rfl) (fun _ _ _ h => h) (Or.inl ⟨?hw_1075, ?hy_1075⟩) (by assumption) ?rest_1075
      case hi_1075 => (simp only [List.getElem?_toArray, List.getElem?_cons_zero, List.getElem?_cons_succ]; rfl)
      case hw_1075 => rfl
      case hy_1075 => (intro w hSw; (try dsimp only at hSw); go_simp; try with_reducible rfl)
      try simp only [Act.put, List.setIfInBounds_toArray, List.set_cons_zero, List.set_cons_succ]
      refine wpAnyH_ready (rs := [6, 13]) (by kernel_rfl) (by simp) (AllReadyH.cons (o := ?o_6_1076) ?ho_6_1076 (fun K hK => ?_) (AllReadyH.cons (o := ?o_13_1076) ?ho_13_1076 (fun K hK => ?_) AllReadyH.nil))
      case ho_6_1076 => (simp only [List.getElem?_toArray, List.getElem?_cons_zero, List.getElem?_cons_succ]; rfl)
      case ho_13_1076 => (simp only [List.getElem?_toArray, List.getElem?_cons_zero, List.getElem?_cons_succ]; rfl)
      clear hHeld
      focus (go_simp)
      refine hK.out _ _ ?hS_1077 (fun hHeld => ?rest_1077)
      case hS_1077 => ((try dsimp only); first | (with_reducible assumption) | (with_reducible exact HM1.out) | (with_reducible exact HM2.out) | (with_reducible exact HM3.out) | (with_reducible exact HM4.out) | (with_reducible exact Hmk.out _ (bal (k6o hKK) _)) | ((with_reducible refine Hmk.out _ (Below.setCell (Below.setCell (Below.setCell (Below.setCell (Below.setCell (Below.setCell (k6o hKK) ?_ _) ?_ _) ?_ _) ?_ _) ?_ _) ?_ _)) <;> first | exact Nat.le_refl _ | exact Nat.le_succ _))
      clear hK K
      try simp only [Act.put, List.setIfInBounds_toArray, List.set_cons_zero, List.set_cons_succ]
      refine wpAnyH_ready (rs := [7, 13]) (by kernel_rfl) (by simp) (AllReadyH.cons (o := ?o_7_1078) ?ho_7_1078 (fun K hK => ?_) (AllReadyH.cons (o := ?o_13_1078) ?ho_13_1078 (fun K hK => ?_) AllReadyH.nil))
      case ho_7_1078 => (simp only [List.getElem?_toArray, List.getElem?_cons_zero, List.getElem?_cons_succ]; rfl)
      case ho_13_1078 => (simp only [List.getElem?_toArray, List.getElem?_cons_zero, List.getElem?_cons_succ]; rfl)
      focus (go_simp)
      focus (first | (go_at_call 11; (with_reducible refine (Hpk.out _).mono ?_); rintro e w8 ⟨rfl, rfl⟩) | (go_at_call 10; (with_reducible refine (Hcall.out _ ?_).mono ?_); exact (k6o (by with_reducible first | exact hS | assumption)); rintro e w9 ⟨A5, c5, rfl, ho9, hb9⟩; dsimp only [sesVal]; have hKK := Hmk.out w9 (btr (k6o (by with_reducible first | exact hS | assumption)) hb9); try (first | (have hB9 : Bk w9 wi.heap.size zeroC 33 := (by with_reducible exact HZ1.out.later hb9); have y0 := hB9.cell 0 _ rfl; have y1 := hB9.cell 1 _ rfl; have y2 := hB9.cell 2 _ rfl; have y3 := hB9.cell 3 _ rfl; have y4 := hB9.cell 4 _ rfl; have y5 := hB9.cell 5 _ rfl; have f0 := hB9.frozen 0; have f1 := hB9.frozen 1; have f2 := hB9.frozen 2; have f3 := hB9.frozen 3; have f4 := hB9.frozen 4; have f5 := hB9.frozen 5) | (have hB9 : Bk w9 (wi.heap.size + 1) zeroC 33 := (by with_reducible exact HZ2.out.later hb9); have y0 := hB9.cell 0 _ rfl; have y1 := hB9.cell 1 _ rfl; have y2 := hB9.cell 2 _ rfl; have y3 := hB9.cell 3 _ rfl; have y4 := hB9.cell 4 _ rfl; have y5 := hB9.cell 5 _ rfl; have f0 := hB9.frozen 0; have f1 := hB9.frozen 1; have f2 := hB9.frozen 2; have f3 := hB9.frozen 3; have f4 := hB9.frozen 4; have f5 := hB9.frozen 5))))
      focus (go_wp2_with fail)
      have hOld := hHeld
      clear hHeld
      refine hK.out _ _ ?hS_1079 (fun hHeld => ?rest_1079)
      case hS_1079 => ((try dsimp only); first | (with_reducible assumption) | (with_reducible exact HM1.out) | (with_reducible exact HM2.out) | (with_reducible exact HM3.out) | (with_reducible exact HM4.out) | (with_reducible exact Hmk.out _ (bal (k6o hKK) _)) | ((with_reducible refine Hmk.out _ (Below.setCell (Below.setCell (Below.setCell (Below.setCell (Below.setCell (Below.setCell (k6o hKK) ?_ _) ?_ _) ?_ _) ?_ _) ?_ _) ?_ _)) <;> first | exact Nat.le_refl _ | exact Nat.le_succ _))
      clear hK K hOld
      try simp only [Act.put, List.setIfInBounds_toArray, List.set_cons_zero, List.set_cons_succ]
      refine wpAnyH_take (i := 8) (oi := ?oi_1080) (v := ?v_1080) ?hi_1080 (by kernel_rfl) (by kernel_rfl) (by kernel_rfl) (fun _ _ _ h => h) (Or.inl ⟨?hw_1080, ?hy_1080⟩) (by assumption) ?rest_1080
      case hi_1080 => (simp only [List.getElem?_toArray, List.getElem?_cons_zero, List.getElem?_cons_succ]; rfl)
      case hw_1080 => rfl
      case hy_1080 => (intro w hSw; (try dsimp only at hSw); go_simp; try with_reducible rfl)
      try simp only [Act.put, List.setIfInBounds_toArray, List.set_cons_zero, List.set_cons_succ]
      refine wpAnyH_take (i := 9) (oi := ?oi_1081) (v := ?v_1081) ?hi_1081 (by kernel_rfl) (by kernel_rfl) (by kernel_rfl) (fun _ _ _ h => h) (Or.inl ⟨?hw_1081, ?hy_1081⟩) (by assumption) ?rest_1081
      case hi_1081 => (simp only [List.getElem?_toArray, List.getElem?_cons_zero, List.getElem?_cons_succ]; rfl)
      case hw_1081 => rfl
      case hy_1081 => (intro w hSw; (try dsimp only at hSw); go_simp; try with_reducible rfl)
      try simp only [Act.put, List.setIfInBounds_toArray, List.set_cons_zero, List.set_cons_succ]
      refine wpAnyH_take (i := 10) (oi := ?oi_1082) (v := ?v_1082) ?hi_1082 (by kernel_rfl) (by kernel_rfl) (by kernel_rfl) (fun _ _ _ h => h) (Or.inl ⟨?hw_1082, ?hy_1082⟩) (by assumption) ?rest_1082
      case hi_1082 => (simp only [List.getElem?_toArray, List.getElem?_cons_zero, List.getElem?_cons_succ]; rfl)
      case hw_1082 => rfl
      case hy_1082 => (intro w hSw; (try dsimp only at hSw); go_simp; try with_reducible rfl)
      try simp only [Act.put, List.setIfInBounds_toArray, List.set_cons_zero, List.set_cons_succ]
      refine wpAnyH_take (i := 11) (oi := ?oi_1083) (v := ?v_1083) ?hi_1083 (by kernel_rfl) (by kernel_rfl) (by kernel_rfl) (fun _ _ _ h => h) (Or.inl ⟨?hw_1083, ?hy_1083⟩) (by assumption) ?rest_1083
      case hi_1083 => (simp only [List.getElem?_toArray, List.getElem?_cons_zero, List.getElem?_cons_succ]; rfl)
      case hw_1083 => rfl
      case hy_1083 => (intro w hSw; (try dsimp only at hSw); go_simp; try with_reducible rfl)
      try simp only [Act.put, List.setIfInBounds_toArray, List.set_cons_zero, List.set_cons_succ]
      refine wpAnyH_take (i := 12) (oi := ?oi_1084) (v := ?v_1084) ?hi_1084 (by kernel_rfl) (by kernel_rfl) (by kernel_rfl) (fun _ _ _ h => h) (Or.inl ⟨?hw_1084, ?hy_1084⟩) (by assumption) ?rest_1084
      case hi_1084 => (simp only [List.getElem?_toArray, List.getElem?_cons_zero, List.getElem?_cons_succ]; rfl)
      case hw_1084 => rfl
      case hy_1084 => (intro w hSw; (try dsimp only at hSw); go_simp; try with_reducible rfl)
      try simp only [Act.put, List.setIfInBounds_toArray, List.set_cons_zero, List.set_cons_succ]
      refine wpAnyH_ready (rs := [13]) (by kernel_rfl) (by simp) (AllReadyH.cons (o := ?o_13_1085) ?ho_13_1085 (fun K hK => ?_) AllReadyH.nil)
      case ho_13_1085 => (simp only [List.getElem?_toArray, List.getElem?_cons_zero, List.getElem?_cons_succ]; rfl)
      clear hHeld
      focus (go_simp)
      refine hK.out _ _ ?hS_1086 (fun hHeld => ?rest_1086)
      case hS_1086 => ((try dsimp only); first | (with_reducible assumption) | (with_reducible exact HM1.out) | (with_reducible exact HM2.out) | (with_reducible exact HM3.out) | (with_reducible exact HM4.out) | (with_reducible exact Hmk.out _ (bal (k6o hKK) _)) | ((with_reducible refine Hmk.out _ (Below.setCell (Below.setCell (Below.setCell (Below.setCell (Below.setCell (Below.setCell (k6o hKK) ?_ _) ?_ _) ?_ _) ?_ _) ?_ _) ?_ _)) <;> first | exact Nat.le_refl _ | exact Nat.le_succ _))
      clear hK K
      try simp only [Act.put, List.setIfInBounds_toArray, List.set_cons_zero, List.set_cons_succ]
      refine wpAnyH_ready (rs := [14]) (by kernel_rfl) (by simp) (AllReadyH.cons (o := ?o_14_1087) ?ho_14_1087 (fun K hK => ?_) AllReadyH.nil)
      case ho_14_1087 => (simp only [List.getElem?_toArray, List.getElem?_cons_zero, List.getElem?_cons_succ]; rfl)
      clear hHeld
      focus (go_simp)
      refine hK.out _ _ ?hS_1088 (fun hHeld => ?rest_1088)
      case hS_1088 => ((try dsimp only); first | (with_reducible assumption) | (with_reducible exact HM1.out) | (with_reducible exact HM2.out) | (with_reducible exact HM3.out) | (with_reducible exact HM4.out) | (with_reducible exact Hmk.out _ (bal (k6o hKK) _)) | ((with_reducible refine Hmk.out _ (Below.setCell (Below.setCell (Below.setCell (Below.setCell (Below.setCell (Below.setCell (k6o hKK) ?_ _) ?_ _) ?_ _) ?_ _) ?_ _) ?_ _)) <;> first | exact Nat.le_refl _ | exact Nat.le_succ _))
      clear hK K
      try simp only [Act.put, List.setIfInBounds_toArray, List.set_cons_zero, List.set_cons_succ]
      refine wpAnyH_take (i := 15) (oi := ?oi_1089) (v := ?v_1089) ?hi_1089 (by kernel_rfl) (by kernel_rfl) (by kernel_rfl) (fun _ _ _ h => h) (Or.inl ⟨?hw_1089, ?hy_1089⟩) (by assumption) ?rest_1089
      case hi_1089 => (simp only [List.getElem?_toArray, List.getElem?_cons_zero, List.getElem?_cons_succ]; rfl)
      case hw_1089 => rfl
      case hy_1089 => (intro w hSw; (try dsimp only at hSw); go_simp; try with_reducible rfl)
      try simp only [Act.put, List.setIfInBounds_toArray, List.set_cons_zero, List.set_cons_succ]
      refine wpAnyH_take (i := 16) (oi := ?oi_1090) (v := ?v_1090) ?hi_1090 (by kernel_rfl) (by kernel_rfl) (by kernel_rfl) (fun _ _ _ h => h) (Or.inl ⟨?hw_1090, ?hy_1090⟩) (by assumption) ?rest_1090
      case hi_1090 => (simp only [List.getElem?_toArray, List.getElem?_cons_zero, List.getElem?_cons_succ]; rfl)
      case hw_1090 => rfl
      case hy_1090 => (intro w hSw; (try dsimp only at hSw); go_simp; try with_reducible rfl)
      try simp only [Act.put, List.setIfInBounds_toArray, List.set_cons_zero, List.set_cons_succ]
      refine wpAnyH_take (i := 17) (oi := ?oi_1091) (v := ?v_1091) ?hi_1091 (by kernel_rfl) (by kernel_rfl) (by kernel_rfl) (fun _ _ _ h => h) (Or.inl ⟨?hw_1091, ?hy_1091⟩) (by assumption) ?rest_1091
      case hi_1091 => (simp only [List.getElem?_toArray, List.getElem?_cons_zero, List.getElem?_cons_succ]; rfl)
      case hw_1091 => rfl
      case hy_1091 => (intro w hSw; (try dsimp only at hSw); go_simp; try with_reducible rfl)
      try simp only [Act.put, List.setIfInBounds_toArray, List.set_cons_zero, List.set_cons_succ]
      refine wpAnyH_done (by kernel_rfl) ?_ _
      refine NoPanic.normal ?_
      rotate_left
      clear hHeld
      focus (go_simp)
      refine hK.out _ _ ?hS_1092 (fun hHeld => ?rest_1092)
      case hS_1092 => ((try dsimp only); first | (with_reducible assumption) | (with_reducible exact HM1.out) | (with_reducible exact HM2.out) | (with_reducible exact HM3.out) | (with_reducible exact HM4.out) | (with_reducible exact Hmk.out _ (bal (k6o hKK) _)) | ((with_reducible refine Hmk.out _ (Below.setCell (Below.setCell (Below.setCell (Below.setCell (Below.setCell (Below.setCell (k6o hKK) ?_ _) ?_ _) ?_ _) ?_ _) ?_ _) ?_ _)) <;> first | exact Nat.le_refl _ | exact Nat.le_succ _))
      clear hK K
      try simp only [Act.put, List.setIfInBounds_toArray, List.set_cons_zero, List.set_cons_succ]
      refine wpAnyH_ready (rs := [7]) (by kernel_rfl) (by simp) (AllReadyH.cons (o := ?o_7_1093) ?ho_7_1093 (fun K hK => ?_) AllReadyH.nil)
      case ho_7_1093 => (simp only [List.getElem?_toArray, List.getElem?_cons_zero, List.getElem?_cons_succ]; rfl)
      focus (go_simp)
      focus (first | (go_at_call 11; (with_reducible refine (Hpk.out _).mono ?_); rintro e w8 ⟨rfl, rfl⟩) | (go_at_call 10; (with_reducible refine (Hcall.out _ ?_).mono ?_); exact (k6o (by with_reducible first | exact hS | assumption)); rintro e w9 ⟨A5, c5, rfl, ho9, hb9⟩; dsimp only [sesVal]; have hKK := Hmk.out w9 (btr (k6o (by with_reducible first | exact hS | assumption)) hb9); try (first | (have hB9 : Bk w9 wi.heap.size zeroC 33 := (by with_reducible exact HZ1.out.later hb9); have y0 := hB9.cell 0 _ rfl; have y1 := hB9.cell 1 _ rfl; have y2 := hB9.cell 2 _ rfl; have y3 := hB9.cell 3 _ rfl; have y4 := hB9.cell 4 _ rfl; have y5 := hB9.cell 5 _ rfl; have f0 := hB9.frozen 0; have f1 := hB9.frozen 1; have f2 := hB9.frozen 2; have f3 := hB9.frozen 3; have f4 := hB9.frozen 4; have f5 := hB9.frozen 5) | (have hB9 : Bk w9 (wi.heap.size + 1) zeroC 33 := (by with_reducible exact HZ2.out.later hb9); have y0 := hB9.cell 0 _ rfl; have y1 := hB9.cell 1 _ rfl; have y2 := hB9.cell 2 _ rfl; have y3 := hB9.cell 3 _ rfl; have y4 := hB9.cell 4 _ rfl; have y5 := hB9.cell 5 _ rfl; have f0 := hB9.frozen 0; have f1 := hB9.frozen 1; have f2 := hB9.frozen 2; have f3 := hB9.frozen 3; have f4 := hB9.frozen 4; have f5 := hB9.frozen 5))))
      focus (go_wp2_with fail)
      have hOld := hHeld
      clear hHeld
      refine hK.out _ _ ?hS_1094 (fun hHeld => ?rest_1094)
      case hS_1094 => ((try dsimp only); first | (with_reducible assumption) | (with_reducible exact HM1.out) | (with_reducible exact HM2.out) | (with_reducible exact HM3.out) | (with_reducible exact HM4.out) | (with_reducible exact Hmk.out _ (bal (k6o hKK) _)) | ((with_reducible refine Hmk.out _ (Below.setCell (Below.setCell (Below.setCell (Below.setCell (Below.setCell (Below.setCell (k6o hKK) ?_ _) ?_ _) ?_ _) ?_ _) ?_ _) ?_ _)) <;> first | exact Nat.le_refl _ | exact Nat.le_succ _))
      clear hK K hOld
      try simp only [Act.put, List.setIfInBounds_toArray, List.set_cons_zero, List.set_cons_succ]
      refine wpAnyH_take (i := 8) (oi := ?oi_1095) (v := ?v_1095) ?hi_1095 (by kernel_rfl) (by kernel_rfl) (by kernel_rfl) (fun _ _ _ h => h) (Or.inl ⟨?hw_1095, ?hy_1095⟩) (by assumption) ?rest_1095
      case hi_1095 => (simp only [List.getElem?_toArray, List.getElem?_cons_zero, List.getElem?_cons_succ]; rfl)
      case hw_1095 => rfl
      case hy_1095 => (intro w hSw; (try dsimp only at hSw); go_simp; try with_reducible rfl)
      try simp only [Act.put, List.setIfInBounds_toArray, List.set_cons_zero, List.set_cons_succ]
      refine wpAnyH_take (i := 9) (oi := ?oi_1096) (v := ?v_1096) ?hi_1096 (by kernel_rfl) (by kernel_rfl) (by kernel_rfl) (fun _ _ _ h => h) (Or.inl ⟨?hw_1096, ?hy_1096⟩) (by assumption) ?rest_1096
      case hi_1096 => (simp only [List.getElem?_toArray, List.getElem?_cons_zero, List.getElem?_cons_succ]; rfl)
      case hw_1096 => rfl
      case hy_1096 => (intro w hSw; (try dsimp only at hSw); go_simp; try with_reducible rfl)
      try simp only [Act.put, List.setIfInBounds_toArray, List.set_cons_zero, List.set_cons_succ]
      refine wpAnyH_take (i := 10) (oi := ?oi_1097) (v := ?v_1097) ?hi_1097 (by kernel_rfl) (by kernel_rfl) (by kernel_rfl) (fun _ _ _ h => h) (Or.inl ⟨?hw_1097, ?hy_1097⟩) (by assumption) ?rest_1097
      case hi_1097 => (simp only [List.getElem?_toArray, List.getElem?_cons_zero, List.getElem?_cons_succ]; rfl)
      case hw_1097 => rfl
      case hy_1097 => (intro w hSw; (try dsimp only at hSw); go_simp; try with_reducible rfl)
      try simp only [Act.put, List.setIfInBounds_toArray, List.set_cons_zero, List.set_cons_succ]
      refine wpAnyH_take (i := 11) (oi := ?oi_1098) (v := ?v_1098) ?hi_1098 (by kernel_rfl) (by kernel_rfl) (by kernel_rfl) (fun _ _ _ h => h) (Or.inl ⟨?hw_1098, ?hy_1098⟩) (by assumption) ?rest_1098
      case hi_1098 => (simp only [List.getElem?_toArray, List.getElem?_cons_zero, List.getElem?_cons_succ]; rfl)
      case hw_1098 => rfl
      case hy_1098 => (intro w hSw; (try dsimp only at hSw); go_simp; try with_reducible rfl)
      try simp only [Act.put, List.setIfInBounds_toArray, List.set_cons_zero, List.set_cons_succ]
      refine wpAnyH_take (i := 12) (oi := ?oi_1099) (v := ?v_1099) ?hi_1099 (by kernel_rfl) (by kernel_rfl) (by kernel_rfl) (fun _ _ _ h => h) (Or.inl ⟨?hw_1099, ?hy_1099⟩) (by assumption) ?rest_1099
      case hi_1099 => (simp only [List.getElem?_toArray, List.getElem?_cons_zero, List.getElem?_cons_succ]; rfl)
      case hw_1099 => rfl
      case hy_1099 => (intro w hSw; (try dsimp only at hSw); go_simp; try with_reducible rfl)
      try simp only [Act.put, List.setIfInBounds_toArray, List.set_cons_zero, List.set_cons_succ]
      refine wpAnyH_ready (rs := [14]) (by kernel_rfl) (by simp) (AllReadyH.cons (o := ?o_14_1100) ?ho_14_1100 (fun K hK => ?_) AllReadyH.nil)
      case ho_14_1100 => (simp only [List.getElem?_toArray, List.getElem?_cons_zero, List.getElem?_cons_succ]; rfl)
      clear hHeld
      focus (go_simp)
      refine hK.out _ _ ?hS_1101 (fun hHeld => ?rest_1101)
      case hS_1101 => ((try dsimp only); first | (with_reducible assumption) | (with_reducible exact HM1.out) | (with_reducible exact HM2.out) | (with_reducible exact HM3.out) | (with_reducible exact HM4.out) | (with_reducible exact Hmk.out _ (bal (k6o hKK) _)) | ((with_reducible refine Hmk.out _ (Below.setCell (Below.setCell (Below.setCell (Below.setCell (Below.setCell (Below.setCell (k6o hKK) ?_ _) ?_ _) ?_ _) ?_ _) ?_ _) ?_ _)) <;> first | exact Nat.le_refl _ | exact Nat.le_succ _))
      clear hK K
      try simp only [Act.put, List.setIfInBounds_toArray, List.set_cons_zero, List.set_cons_succ]
      refine wpAnyH_take (i := 15) (oi := ?oi_1102) (v := ?v_1102) ?hi_1102 (by kernel_rfl) (by kernel_rfl) (by kernel_rfl) (fun _ _ _ h => h) (Or.inl ⟨?hw_1102, ?hy_1102⟩) (by assumption) ?rest_1102
      case hi_1102 => (simp only [List.getElem?_toArray, List.getElem?_cons_zero, List.getElem?_cons_succ]; rfl)
      case hw_1102 => rfl
      case hy_1102 => (intro w hSw; (try dsimp only at hSw); go_simp; try with_reducible rfl)
      try simp only [Act.put, List.setIfInBounds_toArray, List.set_cons_zero, List.set_cons_succ]
      refine wpAnyH_take (i := 16) (oi := ?oi_1103) (v := ?v_1103) ?hi_1103 (by kernel_rfl) (by kernel_rfl) (by kernel_rfl) (fun _ _ _ h => h) (Or.inl ⟨?hw_1103, ?hy_1103⟩) (by assumption) ?rest_1103
      case hi_1103 => (simp only [List.getElem?_toArray, List.getElem?_cons_zero, List.getElem?_cons_succ]; rfl)
      case hw_1103 => rfl
      case hy_1103 => (intro w hSw; (try dsimp only at hSw); go_simp; try with_reducible rfl)
      try simp only [Act.put, List.setIfInBounds_toArray, List.set_cons_zero, List.set_cons_succ]
      refine wpAnyH_take (i := 17) (oi := ?oi_1104) (v := ?v_1104) ?hi_1104 (by kernel_rfl) (by kernel_rfl) (by kernel_rfl) (fun _ _ _ h => h) (Or.inl ⟨?hw_1104, ?hy_1104⟩) (by assumption) ?rest_1104
      case hi_1104 => (simp only [List.getElem?_toArray, List.getElem?_cons_zero, List.getElem?_cons_succ]; rfl)
      case hw_1104 => rfl
      case hy_1104 => (intro w hSw; (try dsimp only at hSw); go_simp; try with_reducible rfl)
      try simp only [Act.put, List.setIfInBounds_toArray, List.set_cons_zero, List.set_cons_succ]
      refine wpAnyH_done (by kernel_rfl) ?_ _
      refine NoPanic.normal ?_
      rotate_left
      clear hHeld
      focus (go_simp)
      refine hK.out _ _ ?hS_1105 (fun hHeld => ?rest_1105)
      case hS_1105 => ((try dsimp only); first | (with_reducible assumption) | (with_reducible exact HM1.out) | (with_reducible exact HM2.out) | (with_reducible exact HM3.out) | (with_reducible exact HM4.out) | (with_reducible exact Hmk.out _ (bal (k6o hKK) _)) | ((with_reducible refine Hmk.out _ (Below.setCell (Below.setCell (Below.setCell (Below.setCell (Below.setCell (Below.setCell (k6o hKK) ?_ _) ?_ _) ?_ _) ?_ _) ?_ _) ?_ _)) <;> first | exact Nat.le_refl _ | exact Nat.le_succ _))
      clear hK K
      try simp only [Act.put, List.setIfInBounds_toArray, List.set_cons_zero, List.set_cons_succ]
      refine wpAnyH_ready (rs := [6]) (by kernel_rfl) (by simp) (AllReadyH.cons (o := ?o_6_1106) ?ho_6_1106 (fun K hK => ?_) AllReadyH.nil)
      case ho_6_1106 => (simp only [List.getElem?_toArray, List.getElem?_cons_zero, List.getElem?_cons_succ]; rfl)
      clear hHeld
      focus (go_simp)
      refine hK.out _ _ ?hS_1107 (fun hHeld => ?rest_1107)
      case hS_1107 => ((try dsimp only); first | (with_reducible assumption) | (with_reducible exact HM1.out) | (with_reducible exact HM2.out) | (with_reducible exact HM3.out) | (with_reducible exact HM4.out) | (with_reducible exact Hmk.out _ (bal (k6o hKK) _)) | ((with_reducible refine Hmk.out _ (Below.setCell (Below.setCell (Below.setCell (Below.setCell (Below.setCell (Below.setCell (k6o hKK) ?_ _) ?_ _) ?_ _) ?_ _) ?_ _) ?_ _)) <;> first | exact Nat.le_refl _ | exact Nat.le_succ _))
      clear hK K
      try simp only [Act.put, List.setIfInBounds_toArray, List.set_cons_zero, List.set_cons_succ]
      refine wpAnyH_ready (rs := [7]) (by kernel_rfl) (by simp) (AllReadyH.cons (o := ?o_7_1108) ?ho_7_1108 (fun K hK => ?_) AllReadyH.nil)
      case ho_7_1108 => (simp only [List.getElem?_toArray, List.getElem?_cons_zero, List.getElem?_cons_succ]; rfl)
      focus (go_simp)
      focus (first | (go_at_call 11; (with_reducible refine (Hpk.out _).mono ?_); rintro e w8 ⟨rfl, rfl⟩) | (go_at_call 10; (with_reducible refine (Hcall.out _ ?_).mono ?_); exact (k6o (by with_reducible first | exact hS | assumption)); rintro e w9 ⟨A5, c5, rfl, ho9, hb9⟩; dsimp only [sesVal]; have hKK := Hmk.out w9 (btr (k6o (by with_reducible first | exact hS | assumption)) hb9); try (first | (have hB9 : Bk w9 wi.heap.size zeroC 33 := (by with_reducible exact HZ1.out.later hb9); have y0 := hB9.cell 0 _ rfl; have y1 := hB9.cell 1 _ rfl; have y2 := hB9.cell 2 _ rfl; have y3 := hB9.cell 3 _ rfl; have y4 := hB9.cell 4 _ rfl; have y5 := hB9.cell 5 _ rfl; have f0 := hB9.frozen 0; have f1 := hB9.frozen 1; have f2 := hB9.frozen 2; have f3 := hB9.frozen 3; have f4 := hB9.frozen 4; have f5 := hB9.frozen 5) | (have hB9 : Bk w9 (wi.heap.size + 1) zeroC 33 := (by with_reducible exact HZ2.out.later hb9); have y0 := hB9.cell 0 _ rfl; have y1 := hB9.cell 1 _ rfl; have y2 := hB9.cell 2 _ rfl; have y3 := hB9.cell 3 _ rfl; have y4 := hB9.cell 4 _ rfl; have y5 := hB9.cell 5 _ rfl; have f0 := hB9.frozen 0; have f1 := hB9.frozen 1; have f2 := hB9.frozen 2; have f3 := hB9.frozen 3; have f4 := hB9.frozen 4; have f5 := hB9.frozen 5))))
      focus (go_wp2_with fail)
      have hOld := hHeld
      clear hHeld
      refine hK.out _ _ ?hS_1109 (fun hHeld => ?rest_1109)
      case hS_1109 => ((try dsimp only); first | (with_reducible assumption) | (with_reducible exact HM1.out) | (with_reducible exact HM2.out) | (with_reducible exact HM3.out) | (with_reducible exact HM4.out) | (with_reducible exact Hmk.out _ (bal (k6o hKK) _)) | ((with_reducible refine Hmk.out _ (Below.setCell (Below.setCell (Below.setCell (Below.setCell (Below.setCell (Below.setCell (k6o hKK) ?_ _) ?_ _) ?_ _) ?_ _) ?_ _) ?_ _)) <;> first | exact Nat.le_refl _ | exact Nat.le_succ _))
      clear hK K hOld
      try simp only [Act.put, List.setIfInBounds_toArray, List.set_cons_zero, List.set_cons_succ]
      refine wpAnyH_take (i := 8) (oi := ?oi_1110) (v := ?v_1110) ?hi_1110 (by kernel_rfl) (by kernel_rfl) (by kernel_rfl) (fun _ _ _ h => h) (Or.inl ⟨?hw_1110, ?hy_1110⟩) (by assumption) ?rest_1110
      case hi_1110 => (simp only [List.getElem?_toArray, List.getElem?_cons_zero, List.getElem?_cons_succ]; rfl)
      case hw_1110 => rfl
      case hy_1110 => (intro w hSw; (try dsimp only at hSw); go_simp; try with_reducible rfl)
      try simp only [Act.put, List.setIfInBounds_toArray, List.set_cons_zero, List.set_cons_succ]
      refine wpAnyH_take (i := 9) (oi := ?oi_1111) (v := ?v_1111) ?hi_1111 (by kernel_rfl) (by kernel_rfl) (by kernel_rfl) (fun _ _ _ h => h) (Or.inl ⟨?hw_1111, ?hy_1111⟩) (by assumption) ?rest_1111
      case hi_1111 => (simp only [List.getElem?_toArray, List.getElem?_cons_zero, List.getElem?_cons_succ]; rfl)
      case hw_1111 => rfl
      case hy_1111 => (intro w hSw; (try dsimp only at hSw); go_simp; try with_reducible rfl)
      try simp only [Act.put, List.setIfInBounds_toArray, List.set_cons_zero, List.set_cons_succ]
      refine wpAnyH_take (i := 10) (oi := ?oi_1112) (v := ?v_1112) ?hi_1112 (by kernel_rfl) (by kernel_rfl) (by kernel_rfl) (fun _ _ _ h => h) (Or.inl ⟨?hw_1112, ?hy_1112⟩) (by assumption) ?rest_1112
      case hi_1112 => (simp only [List.getElem?_toArray, List.getElem?_cons_zero, List.getElem?_cons_succ]; rfl)
      case hw_1112 => rfl
      case hy_1112 => (intro w hSw; (try dsimp only at hSw); go_simp; try with_reducible rfl)
      try simp only [Act.put, List.setIfInBounds_toArray, List.set_cons_zero, List.set_cons_succ]
      refine wpAnyH_take (i := 11) (oi := ?oi_1113) (v := ?v_1113) ?hi_1113 (by kernel_rfl) (by kernel_rfl) (by kernel_rfl) (fun _ _ _ h => h) (Or.inl ⟨?hw_1113, ?hy_1113⟩) (by assumption) ?rest_1113
      case hi_1113 => (simp only [List.getElem?_toArray, List.getElem?_cons_zero, List.getElem?_cons_succ]; rfl)
      case hw_1113 => rfl
      case hy_1113 => (intro w hSw; (try dsimp only at hSw); go_simp; try with_reducible rfl)
      try simp only [Act.put, List.setIfInBounds_toArray, List.set_cons_zero, List.set_cons_succ]
      refine wpAnyH_take (i := 12) (oi := ?oi_1114) (v := ?v_1114) ?hi_1114 (by kernel_rfl) (by kernel_rfl) (by kernel_rfl) (fun _ _ _ h => h) (Or.inl ⟨?hw_1114, ?hy_1114⟩) (by assumption) ?rest_1114
      case hi_1114 => (simp only [List.getElem?_toArray, List.getElem?_cons_zero, List.getElem?_cons_succ]; rfl)
      case hw_1114 => rfl
      case hy_1114 => (intro w hSw; (try dsimp only at hSw); go_simp; try with_reducible rfl)
      try simp only [Act.put, List.setIfInBounds_toArray, List.set_cons_zero, List.set_cons_succ]
      refine wpAnyH_ready (rs := [14]) (by kernel_rfl) (by simp) (AllReadyH.cons (o := ?o_14_1115) ?ho_14_1115 (fun K hK => ?_) AllReadyH.nil)
      case ho_14_1115 => (simp only [List.getElem?_toArray, List.getElem?_cons_zero, List.getElem?_cons_succ]; rfl)
      clear hHeld
      focus (go_simp)
      refine hK.out _ _ ?hS_1116 (fun hHeld => ?rest_1116)
      case hS_1116 => ((try dsimp only); first | (with_reducible assumption) | (with_reducible exact HM1.out) | (with_reducible exact HM2.out) | (with_reducible exact HM3.out) | (with_reducible exact HM4.out) | (with_reducible exact Hmk.out _ (bal (k6o hKK) _)) | ((with_reducible refine Hmk.out _ (Below.setCell (Below.setCell (Below.setCell (Below.setCell (Below.setCell (Below.setCell (k6o hKK) ?_ _) ?_ _) ?_ _) ?_ _) ?_ _) ?_ _)) <;> first | exact Nat.le_refl _ | exact Nat.le_succ _))
      clear hK K
      try simp only [Act.put, List.setIfInBounds_toArray, List.set_cons_zero, List.set_cons_succ]
      refine wpAnyH_take (i := 15) (oi := ?oi_1117) (v := ?v_1117) ?hi_1117 (by kernel_rfl) (by kernel_rfl) (by kernel_rfl) (fun _ _ _ h => h) (Or.inl ⟨?hw_1117, ?hy_1117⟩) (by assumption) ?rest_1117
      case hi_1117 => (simp only [List.getElem?_toArray, List.getElem?_cons_zero, List.getElem?_cons_succ]; rfl)
      case hw_1117 => rfl
      case hy_1117 => (intro w hSw; (try dsimp only at hSw); go_simp; try with_reducible rfl)
      try simp only [Act.put, List.setIfInBounds_toArray, List.set_cons_zero, List.set_cons_succ]
      refine wpAnyH_take (i := 16) (oi := ?oi_1118) (v := ?v_1118) ?hi_1118 (by kernel_rfl) (by kernel_rfl) (by kernel_rfl) (fun _ _ _ h => h) (Or.inl ⟨?hw_1118, ?hy_1118⟩) (by assumption) ?rest_1118
      case hi_1118 => (simp only [List.getElem?_toArray, List.getElem?_cons_zero, List.getElem?_cons_succ]; rfl)
      case hw_1118 => rfl
      case hy_1118 => (intro w hSw; (try dsimp only at hSw); go_simp; try with_reducible rfl)
      try simp only [Act.put, List.setIfInBounds_toArray, List.set_cons_zero, List.set_cons_succ]
      refine wpAnyH_take (i := 17) (oi := ?oi_1119) (v := ?v_1119) ?hi_1119 (by kernel_rfl) (by kernel_rfl) (by kernel_rfl) (fun _ _ _ h => h) (Or.inl ⟨?hw_1119, ?hy_1119⟩) (by assumption) ?rest_1119
      case hi_1119 => (simp only [List.getElem?_toArray, List.getElem?_cons_zero, List.getElem?_cons_succ]; rfl)
      case hw_1119 => rfl
      case hy_1119 => (intro w hSw; (try dsimp only at hSw); go_simp; try with_reducible rfl)
      try simp only [Act.put, List.setIfInBounds_toArray, List.set_cons_zero, List.set_cons_succ]
      refine wpAnyH_done (by kernel_rfl) ?_ _
      refine NoPanic.normal ?_
      rotate_left
      clear hHeld
      focus (go_simp)
      refine hK.out _ _ ?hS_1120 (fun hHeld => ?rest_1120)
      case hS_1120 => ((try dsimp only); first | (with_reducible assumption) | (with_reducible exact HM1.out) | (with_reducible exact HM2.out) | (with_reducible exact HM3.out) | (with_reducible exact HM4.out) | (with_reducible exact Hmk.out _ (bal (k6o hKK) _)) | ((with_reducible refine Hmk.out _ (Below.setCell (Below.setCell (Below.setCell (Below.setCell (Below.setCell (Below.setCell (k6o hKK) ?_ _) ?_ _) ?_ _) ?_ _) ?_ _) ?_ _)) <;> first | exact Nat.le_refl _ | exact Nat.le_succ _))
      clear hK K
      try simp only [Act.put, List.setIfInBounds_toArray, List.set_cons_zero, List.set_cons_succ]
      refine wpAnyH_ready (rs := [2]) (by kernel_rfl) (by simp) (AllReadyH.cons (o := ?o_2_1121) ?ho_2_1121 (fun K hK => ?_) AllReadyH.nil)
      case ho_2_1121 => (simp only [List.getElem?_toArray, List.getElem?_cons_zero, List.getElem?_cons_succ]; rfl)
      clear hHeld
      focus (go_simp)
      refine hK.out _ _ ?hS_1122 (fun hHeld => ?rest_1122)
      case hS_1122 => ((try dsimp only); first | (with_reducible assumption) | (with_reducible exact HM1.out) | (with_reducible exact HM2.out) | (with_reducible exact HM3.out) | (with_reducible exact HM4.out) | (with_reducible exact Hmk.out _ (bal (k6o hKK) _)) | ((with_reducible refine Hmk.out _ (Below.setCell (Below.setCell (Below.setCell (Below.setCell (Below.setCell (Below.setCell (k6o hKK) ?_ _) ?_ _) ?_ _) ?_ _) ?_ _) ?_ _)) <;> first | exact Nat.le_refl _ | exact Nat.le_succ _))
      clear hK K
      try simp only [Act.put, List.setIfInBounds_toArray, List.set_cons_zero, List.set_cons_succ]
      refine wpAnyH_take (i := 5) (oi := ?oi_1123) (v := ?v_1123) ?hi_1123 (by kernel_rfl) (by kernel_rfl) (by kernel_rfl) (fun _ _ _ h => h) (Or.inl ⟨?hw_1123, ?hy_1123⟩) (by assumption) ?rest_1123
      case hi_1123 => (simp only [List.getElem?_toArray, List.getElem?_cons_zero, List.getElem?_cons_succ]; rfl)
      case hw_1123 => rfl
      case hy_1123 => (intro w hSw; (try dsimp only at hSw); go_simp; try with_reducible rfl)
      try simp only [Act.put, List.setIfInBounds_toArray, List.set_cons_zero, List.set_cons_succ]
      refine wpAnyH_ready (rs := [6]) (by kernel_rfl) (by simp) (AllReadyH.cons (o := ?o_6_1124) ?ho_6_1124 (fun K hK => ?_) AllReadyH.nil)
      case ho_6_1124 => (simp only [List.getElem?_toArray, List.getElem?_cons_zero, List.getElem?_cons_succ]; rfl)
      clear hHeld
      focus (go_simp)
      refine hK.out _ _ ?hS_1125 (fun hHeld => ?rest_1125)
      case hS_1125 => ((try dsimp only); first | (with_reducible assumption) | (with_reducible exact HM1.out) | (with_reducible exact HM2.out) | (with_reducible exact HM3.out) | (with_reducible exact HM4.out) | (with_reducible exact Hmk.out _ (bal (k6o hKK) _)) | ((with_reducible refine Hmk.out _ (Below.setCell (Below.setCell (Below.setCell (Below.setCell (Below.setCell (Below.setCell (k6o hKK) ?_ _) ?_ _) ?_ _) ?_ _) ?_ _) ?_ _)) <;> first | exact Nat.le_refl _ | exact Nat.le_succ _))
      clear hK K
      try simp only [Act.put, List.setIfInBounds_toArray, List.set_cons_zero, List.set_cons_succ]
      refine wpAnyH_ready (rs := [7]) (by kernel_rfl) (by simp) (AllReadyH.cons (o := ?o_7_1126) ?ho_7_1126 (fun K hK => ?_) AllReadyH.nil)
      case ho_7_1126 => (simp only [List.getElem?_toArray, List.getElem?_cons_zero, List.getElem?_cons_succ]; rfl)
      focus (go_simp)
      focus (first | (go_at_call 11; (with_reducible refine (Hpk.out _).mono ?_); rintro e w8 ⟨rfl, rfl⟩) | (go_at_call 10; (with_reducible refine (Hcall.out _ ?_).mono ?_); exact (k6o (by with_reducible first | exact hS | assumption)); rintro e w9 ⟨A5, c5, rfl, ho9, hb9⟩; dsimp only [sesVal]; have hKK := Hmk.out w9 (btr (k6o (by with_reducible first | exact hS | assumption)) hb9); try (first | (have hB9 : Bk w9 wi.heap.size zeroC 33 := (by with_reducible exact HZ1.out.later hb9); have y0 := hB9.cell 0 _ rfl; have y1 := hB9.cell 1 _ rfl; have y2 := hB9.cell 2 _ rfl; have y3 := hB9.cell 3 _ rfl; have y4 := hB9.cell 4 _ rfl; have y5 := hB9.cell 5 _ rfl; have f0 := hB9.frozen 0; have f1 := hB9.frozen 1; have f2 := hB9.frozen 2; have f3 := hB9.frozen 3; have f4 := hB9.frozen 4; have f5 := hB9.frozen 5) | (have hB9 : Bk w9 (wi.heap.size + 1) zeroC 33 := (by with_reducible exact HZ2.out.later hb9); have y0 := hB9.cell 0 _ rfl; have y1 := hB9.cell 1 _ rfl; have y2 := hB9.cell 2 _ rfl; have y3 := hB9.cell 3 _ rfl; have y4 := hB9.cell 4 _ rfl; have y5 := hB9.cell 5 _ rfl; have f0 := hB9.frozen 0; have f1 := hB9.frozen 1; have f2 := hB9.frozen 2; have f3 := hB9.frozen 3; have f4 := hB9.frozen 4; have f5 := hB9.frozen 5))))
      focus (go_wp2_with fail)
      have hOld := hHeld
      clear hHeld
      refine hK.out _ _ ?hS_1127 (fun hHeld => ?rest_1127)
      case hS_1127 => ((try dsimp only); first | (with_reducible assumption) | (with_reducible exact HM1.out) | (with_reducible exact HM2.out) | (with_reducible exact HM3.out) | (with_reducible exact HM4.out) | (with_reducible exact Hmk.out _ (bal (k6o hKK) _)) | ((with_reducible refine Hmk.out _ (Below.setCell (Below.setCell (Below.setCell (Below.setCell (Below.setCell (Below.setCell (k6o hKK) ?_ _) ?_ _) ?_ _) ?_ _) ?_ _) ?_ _)) <;> first | exact Nat.le_refl _ | exact Nat.le_succ _))
      clear hK K hOld
      try simp only [Act.put, List.setIfInBounds_toArray, List.set_cons_zero, List.set_cons_succ]
      refine wpAnyH_take (i := 8) (oi := ?oi_1128) (v := ?v_1128) ?hi_1128 (by kernel_rfl) (by kernel_rfl) (by kernel_rfl) (fun _ _ _ h => h) (Or.inl ⟨?hw_1128, ?hy_1128⟩) (by assumption) ?rest_1128
      case hi_1128 => (simp only [List.getElem?_toArray, List.getElem?_cons_zero, List.getElem?_cons_succ]; rfl)
      case hw_1128 => rfl
      case hy_1128 => (intro w hSw; (try dsimp only at hSw); go_simp; try with_reducible rfl)
      try simp only [Act.put, List.setIfInBounds_toArray, List.set_cons_zero, List.set_cons_succ]
      refine wpAnyH_take (i := 9) (oi := ?oi_1129) (v := ?v_1129) ?hi_1129 (by kernel_rfl) (by kernel_rfl) (by kernel_rfl) (fun _ _ _ h => h) (Or.inl ⟨?hw_1129, ?hy_1129⟩) (by assumption) ?rest_1129
      case hi_1129 => (simp only [List.getElem?_toArray, List.getElem?_cons_zero, List.getElem?_cons_succ]; rfl)
      case hw_1129 => rfl
      case hy_1129 => (intro w hSw; (try dsimp only at hSw); go_simp; try with_reducible rfl)
      try simp only [Act.put, List.setIfInBounds_toArray, List.set_cons_zero, List.set_cons_succ]
      refine wpAnyH_take (i := 10) (oi := ?oi_1130) (v := ?v_1130) ?hi_1130 (by kernel_rfl) (by kernel_rfl) (by kernel_rfl) (fun _ _ _ h => h) (Or.inl ⟨?hw_1130, ?hy_1130⟩) (by assumption) ?rest_1130
      case hi_1130 => (simp only [List.getElem?_toArray, List.getElem?_cons_zero, List.getElem?_cons_succ]; rfl)
      case hw_1130 => rfl
      case hy_1130 => (intro w hSw; (try dsimp only at hSw); go_simp; try with_reducible rfl)
      try simp only [Act.put, List.setIfInBounds_toArray, List.set_cons_zero, List.set_cons_succ]
      refine wpAnyH_take (i := 11) (oi := ?oi_1131) (v := ?v_1131) ?hi_1131 (by kernel_rfl) (by kernel_rfl) (by kernel_rfl) (fun _ _ _ h => h) (Or.inl ⟨?hw_1131, ?hy_1131⟩) (by assumption) ?rest_1131
      case hi_1131 => (simp only [List.getElem?_toArray, List.getElem?_cons_zero, List.getElem?_cons_succ]; rfl)
      case hw_1131 => rfl
      case hy_1131 => (intro w hSw; (try dsimp only at hSw); go_simp; try with_reducible rfl)
      try simp only [Act.put, List.setIfInBounds_toArray, List.set_cons_zero, List.set_cons_succ]
      refine wpAnyH_take (i := 12) (oi := ?oi_1132) (v := ?v_1132) ?hi_1132 (by kernel_rfl) (by kernel_rfl) (by kernel_rfl) (fun _ _ _ h => h) (Or.inl ⟨?hw_1132, ?hy_1132⟩) (by assumption) ?rest_1132
      case hi_1132 => (simp only [List.getElem?_toArray, List.getElem?_cons_zero, List.getElem?_cons_succ]; rfl)
      case hw_1132 => rfl
      case hy_1132 => (intro w hSw; (try dsimp only at hSw); go_simp; try with_reducible rfl)
      try simp only [Act.put, List.setIfInBounds_toArray, List.set_cons_zero, List.set_cons_succ]
      refine wpAnyH_ready (rs := [14]) (by kernel_rfl) (by simp) (AllReadyH.cons (o := ?o_14_1133) ?ho_14_1133 (fun K hK => ?_) AllReadyH.nil)
      case ho_14_1133 => (simp only [List.getElem?_toArray, List.getElem?_cons_zero, List.getElem?_cons_succ]; rfl)
      clear hHeld
      focus (go_simp)
      refine hK.out _ _ ?hS_1134 (fun hHeld => ?rest_1134)
      case hS_1134 => ((try dsimp only); first | (with_reducible assumption) | (with_reducible exact HM1.out) | (with_reducible exact HM2.out) | (with_reducible exact HM3.out) | (with_reducible exact HM4.out) | (with_reducible exact Hmk.out _ (bal (k6o hKK) _)) | ((with_reducible refine Hmk.out _ (Below.setCell (Below.setCell (Below.setCell (Below.setCell (Below.setCell (Below.setCell (k6o hKK) ?_ _) ?_ _) ?_ _) ?_ _) ?_ _) ?_ _)) <;> first | exact Nat.le_refl _ | exact Nat.le_succ _))
      clear hK K
      try simp only [Act.put, List.setIfInBounds_toArray, List.set_cons_zero, List.set_cons_succ]
      refine wpAnyH_take (i := 15) (oi := ?oi_1135) (v := ?v_1135) ?hi_1135 (by kernel_rfl) (by kernel_rfl) (by kernel_rfl) (fun _ _ _ h => h) (Or.inl ⟨?hw_1135, ?hy_1135⟩) (by assumption) ?rest_1135
      case hi_1135 => (simp only [List.getElem?_toArray, List.getElem?_cons_zero, List.getElem?_cons_succ]; rfl)
      case hw_1135 => rfl
      case hy_1135 => (intro w hSw; (try dsimp only at hSw); go_simp; try with_reducible rfl)
      try simp only [Act.put, List.setIfInBounds_toArray, List.set_cons_zero, List.set_cons_succ]
      refine wpAnyH_take (i := 16) (oi := ?oi_1136) (v := ?v_1136) ?hi_1136 (by kernel_rfl) (by kernel_rfl) (by kernel_rfl) (fun _ _ _ h => h) (Or.inl ⟨?hw_1136, ?hy_1136⟩) (by assumption) ?rest_1136
      case hi_1136 => (simp only [List.getElem?_toArray, List.getElem?_cons_zero, List.getElem?_cons_succ]; rfl)
      case hw_1136 => rfl
      case hy_1136 => (intro w hSw; (try dsimp only at hSw); go_simp; try with_reducible rfl)
      try simp only [Act.put, List.setIfInBounds_toArray, List.set_cons_zero, List.set_cons_succ]
      refine wpAnyH_take (i := 17) (oi := ?oi_1137) (v := ?v_1137) ?hi_1137 (by kernel_rfl) (by kernel_rfl) (by kernel_rfl) (fun _ _ _ h => h) (Or.inl ⟨?hw_1137, ?hy_1137⟩) (by assumption) ?rest_1137
      case hi_1137 => (simp only [List.getElem?_toArray, List.getElem?_cons_zero, List.getElem?_cons_succ]; rfl)
      case hw_1137 => rfl
      case hy_1137 => (intro w hSw; (try dsimp only at hSw); go_simp; try with_reducible rfl)
      try simp only [Act.put, List.setIfInBounds_toArray, List.set_cons_zero, List.set_cons_succ]
      refine wpAnyH_done (by kernel_rfl) ?_ _
      refine NoPanic.normal ?_
      rotate_left
      clear hHeld
      focus (go_simp)
      refine hK.out _ _ ?hS_1138 (fun hHeld => ?rest_1138)
      case hS_1138 => ((try dsimp only); first | (with_reducible assumption) | (with_reducible exact HM1.out) | (with_reducible exact HM2.out) | (with_reducible exact HM3.out) | (with_reducible exact HM4.out) | (with_reducible exact Hmk.out _ (bal (k6o hKK) _)) | ((with_reducible refine Hmk.out _ (Below.setCell (Below.setCell (Below.setCell (Below.setCell (Below.setCell (Below.setCell (k6o hKK) ?_ _) ?_ _) ?_ _) ?_ _) ?_ _) ?_ _)) <;> first | exact Nat.le_refl _ | exact Nat.le_succ _))
      clear hK K
      try simp only [Act.put, List.setIfInBounds_toArray, List.set_cons_zero, List.set_cons_succ]
      refine wpAnyH_ready (rs := [2, 4]) (by kernel_rfl) (by simp) (AllReadyH.cons (o := ?o_2_1139) ?ho_2_1139 (fun K hK => ?_) (AllReadyH.cons (o := ?o_4_1139) ?ho_4_1139 (fun K hK => ?_) AllReadyH.nil))
      case ho_2_1139 => (simp only [List.getElem?_toArray, List.getElem?_cons_zero, List.getElem?_cons_succ]; rfl)
      case ho_4_1139 => (simp only [List.getElem?_toArray, List.getElem?_cons_zero, List.getElem?_cons_succ]; rfl)
      clear hHeld
      focus (go_simp)
      refine hK.out _ _ ?hS_1140 (fun hHeld => ?rest_1140)
      case hS_1140 => ((try dsimp only); first | (with_reducible assumption) | (with_reducible exact HM1.out) | (with_reducible exact HM2.out) | (with_reducible exact HM3.out) | (with_reducible exact HM4.out) | (with_reducible exact Hmk.out _ (bal (k6o hKK) _)) | ((with_reducible refine Hmk.out _ (Below.setCell (Below.setCell (Below.setCell (Below.setCell (Below.setCell (Below.setCell (k6o hKK) ?_ _) ?_ _) ?_ _) ?_ _) ?_ _) ?_ _)) <;> first | exact Nat.le_refl _ | exact Nat.le_succ _))
      clear hK K
      try simp only [Act.put, List.setIfInBounds_toArray, List.set_cons_zero, List.set_cons_succ]
      refine wpAnyH_ready (rs := [4]) (by kernel_rfl) (by simp) (AllReadyH.cons (o := ?o_4_1141) ?ho_4_1141 (fun K hK => ?_) AllReadyH.nil)
      case ho_4_1141 => (simp only [List.getElem?_toArray, List.getElem?_cons_zero, List.getElem?_cons_succ]; rfl)
      focus (go_simp)
      focus (first | (go_at_call 11; (with_reducible refine (Hpk.out _).mono ?_); rintro e w8 ⟨rfl, rfl⟩) | (go_at_call 10; (with_reducible refine (Hcall.out _ ?_).mono ?_); exact (k6o (by with_reducible first | exact hS | assumption)); rintro e w9 ⟨A5, c5, rfl, ho9, hb9⟩; dsimp only [sesVal]; have hKK := Hmk.out w9 (btr (k6o (by with_reducible first | exact hS | assumption)) hb9); try (first | (have hB9 : Bk w9 wi.heap.size zeroC 33 := (by with_reducible exact HZ1.out.later hb9); have y0 := hB9.cell 0 _ rfl; have y1 := hB9.cell 1 _ rfl; have y2 := hB9.cell 2 _ rfl; have y3 := hB9.cell 3 _ rfl; have y4 := hB9.cell 4 _ rfl; have y5 := hB9.cell 5 _ rfl; have f0 := hB9.frozen 0; have f1 := hB9.frozen 1; have f2 := hB9.frozen 2; have f3 := hB9.frozen 3; have f4 := hB9.frozen 4; have f5 := hB9.frozen 5) | (have hB9 : Bk w9 (wi.heap.size + 1) zeroC 33 := (by with_reducible exact HZ2.out.later hb9); have y0 := hB9.cell 0 _ rfl; have y1 := hB9.cell 1 _ rfl; have y2 := hB9.cell 2 _ rfl; have y3 := hB9.cell 3 _ rfl; have y4 := hB9.cell 4 _ rfl; have y5 := hB9.cell 5 _ rfl; have f0 := hB9.frozen 0; have f1 := hB9.frozen 1; have f2 := hB9.frozen 2; have f3 := hB9.frozen 3; have f4 := hB9.frozen 4; have f5 := hB9.frozen 5))))
      focus (go_wp2_with fail)
      have hOld := hHeld
      clear hHeld
      refine hK.out _ _ ?hS_1142 (fun hHeld => ?rest_1142)
      case hS_1142 => ((try dsimp only); first | (with_reducible assumption) | (with_reducible exact HM1.out) | (with_reducible exact HM2.out) | (with_reducible exact HM3.out) | (with_reducible exact HM4.out) | (with_reducible exact Hmk.out _ (bal (k6o hKK) _)) | ((with_reducible refine Hmk.out _ (Below.setCell (Below.setCell (Below.setCell (Below.setCell (Below.setCell (Below.setCell (k6o hKK) ?_ _) ?_ _) ?_ _) ?_ _) ?_ _) ?_ _)) <;> first | exact Nat.le_refl _ | exact Nat.le_succ _))
      clear hK K hOld
      try simp only [Act.put, List.setIfInBounds_toArray, List.set_cons_zero, List.set_cons_succ]
      refine wpAnyH_take (i := 5) (oi := ?oi_1143) (v := ?v_1143) ?hi_1143 (by kernel_rfl) (by kernel_rfl) (by kernel_rfl) (fun _ _ _ h => h) (Or.inl ⟨?hw_1143, ?hy_1143⟩) (by assumption) ?rest_1143
      case hi_1143 => (simp only [List.getElem?_toArray, List.getElem?_cons_zero, List.getElem?_cons_succ]; rfl)
      case hw_1143 => rfl
      case hy_1143 => (intro w hSw; (try dsimp only at hSw); go_simp; try with_reducible rfl)
      try simp only [Act.put, List.setIfInBounds_toArray, List.set_cons_zero, List.set_cons_succ]
      refine wpAnyH_ready (rs := [6]) (by kernel_rfl) (by simp) (AllReadyH.cons (o := ?o_6_1144) ?ho_6_1144 (fun K hK => ?_) AllReadyH.nil)
      case ho_6_1144 => (simp only [List.getElem?_toArray, List.getElem?_cons_zero, List.getElem?_cons_succ]; rfl)
      clear hHeld
      focus (go_simp)
      refine hK.out _ _ ?hS_1145 (fun hHeld => ?rest_1145)
      case hS_1145 => ((try dsimp only); first | (with_reducible assumption) | (with_reducible exact HM1.out) | (with_reducible exact HM2.out) | (with_reducible exact HM3.out) | (with_reducible exact HM4.out) | (with_reducible exact Hmk.out _ (bal (k6o hKK) _)) | ((with_reducible refine Hmk.out _ (Below.setCell (Below.setCell (Below.setCell (Below.setCell (Below.setCell (Below.setCell (k6o hKK) ?_ _) ?_ _) ?_ _) ?_ _) ?_ _) ?_ _)) <;> first | exact Nat.le_refl _ | exact Nat.le_succ _))
      clear hK K
      try simp only [Act.put, List.setIfInBounds_toArray, List.set_cons_zero, List.set_cons_succ]
      refine wpAnyH_ready (rs := [7]) (by kernel_rfl) (by simp) (AllReadyH.cons (o := ?o_7_1146) ?ho_7_1146 (fun K hK => ?_) AllReadyH.nil)
      case ho_7_1146 => (simp only [List.getElem?_toArray, List.getElem?_cons_zero, List.getElem?_cons_succ]; rfl)
      focus (go_simp)
      focus (first | (go_at_call 11; (with_reducible refine (Hpk.out _).mono ?_); rintro e w8 ⟨rfl, rfl⟩) | (go_at_call 10; (with_reducible refine (Hcall.out _ ?_).mono ?_); exact (k6o (by with_reducible first | exact hS | assumption)); rintro e w9 ⟨A5, c5, rfl, ho9, hb9⟩; dsimp only [sesVal]; have hKK := Hmk.out w9 (btr (k6o (by with_reducible first | exact hS | assumption)) hb9); try (first | (have hB9 : Bk w9 wi.heap.size zeroC 33 := (by with_reducible exact HZ1.out.later hb9); have y0 := hB9.cell 0 _ rfl; have y1 := hB9.cell 1 _ rfl; have y2 := hB9.cell 2 _ rfl; have y3 := hB9.cell 3 _ rfl; have y4 := hB9.cell 4 _ rfl; have y5 := hB9.cell 5 _ rfl; have f0 := hB9.frozen 0; have f1 := hB9.frozen 1; have f2 := hB9.frozen 2; have f3 := hB9.frozen 3; have f4 := hB9.frozen 4; have f5 := hB9.frozen 5) | (have hB9 : Bk w9 (wi.heap.size + 1) zeroC 33 := (by with_reducible exact HZ2.out.later hb9); have y0 := hB9.cell 0 _ rfl; have y1 := hB9.cell 1 _ rfl; have y2 := hB9.cell 2 _ rfl; have y3 := hB9.cell 3 _ rfl; have y4 := hB9.cell 4 _ rfl; have y5 := hB9.cell 5 _ rfl; have f0 := hB9.frozen 0; have f1 := hB9.frozen 1; have f2 := hB9.frozen 2; have f3 := hB9.frozen 3; have f4 := hB9.frozen 4; have f5 := hB9.frozen 5))))
      focus (go_wp2_with fail)
      have hOld := hHeld
      clear hHeld
      refine hK.out _ _ ?hS_1147 (fun hHeld => ?rest_1147)
      case hS_1147 => ((try dsimp only); first | (with_reducible assumption) | (with_reducible exact HM1.out) | (with_reducible exact HM2.out) | (with_reducible exact HM3.out) | (with_reducible exact HM4.out) | (with_reducible exact Hmk.out _ (bal (k6o hKK) _)) | ((with_reducible refine Hmk.out _ (Below.setCell (Below.setCell (Below.setCell (Below.setCell (Below.setCell (Below.setCell (k6o hKK) ?_ _) ?_ _) ?_ _) ?_ _) ?_ _) ?_ _)) <;> first | exact Nat.le_refl _ | exact Nat.le_succ _))
      clear hK K hOld
      try simp only [Act.put, List.setIfInBounds_toArray, List.set_cons_zero, List.set_cons_succ]
      refine wpAnyH_take (i := 8) (oi := ?oi_1148) (v := ?v_1148) ?hi_1148 (by kernel_rfl) (by kernel_rfl) (by kernel_rfl) (fun _ _ _ h => h) (Or.inl ⟨?hw_1148, ?hy_1148⟩) (by assumption) ?rest_1148
      case hi_1148 => (simp only [List.getElem?_toArray, List.getElem?_cons_zero, List.getElem?_cons_succ]; rfl)
      case hw_1148 => rfl
      case hy_1148 => (intro w hSw; (try dsimp only at hSw); go_simp; try with_reducible rfl)
      try simp only [Act.put, List.setIfInBounds_toArray, List.set_cons_zero, List.set_cons_succ]
      refine wpAnyH_take (i := 9) (oi := ?oi_1149) (v := ?v_1149) ?hi_1149 (by kernel_rfl) (by kernel_rfl) (by kernel_rfl) (fun _ _ _ h => h) (Or.inl ⟨?hw_1149, ?hy_1149⟩) (by assumption) ?rest_1149
      case hi_1149 => (simp only [List.getElem?_toArray, List.getElem?_cons_zero, List.getElem?_cons_succ]; rfl)
      case hw_1149 => rfl
      case hy_1149 => (intro w hSw; (try dsimp only at hSw); go_simp; try with_reducible rfl)
      try simp only [Act.put, List.setIfInBounds_toArray, List.set_cons_zero, List.set_cons_succ]
      refine wpAnyH_take (i := 10) (oi := ?oi_1150) (v := ?v_1150) ?hi_1150 (by kernel_rfl) (by kernel_rfl) (by kernel_rfl) (fun _ _ _ h => h) (Or.inl ⟨?hw_1150, ?hy_1150⟩) (by assumption) ?rest_1150
      case hi_1150 => (simp only [List.getElem?_toArray, List.getElem?_cons_zero, List.getElem?_cons_succ]; rfl)
      case hw_1150 => rfl
      case hy_1150 => (intro w hSw; (try dsimp only at hSw); go_simp; try with_reducible rfl)
      try simp only [Act.put, List.setIfInBounds_toArray, List.set_cons_zero, List.set_cons_succ]
      refine wpAnyH_take (i := 11) (oi := ?oi_1151) (v := ?v_1151) ?hi_1151 (by kernel_rfl) (by kernel_rfl) (by kernel_rfl) (fun _ _ _ h => h) (Or.inl ⟨?hw_1151, ?hy_1151⟩) (by assumption) ?rest_1151
      case hi_1151 => (simp only [List.getElem?_toArray, List.getElem?_cons_zero, List.getElem?_cons_succ]; rfl)
      case hw_1151 => rfl
      case hy_1151 => (intro w hSw; (try dsimp only at hSw); go_simp; try with_reducible rfl)
      try simp only [Act.put, List.setIfInBounds_toArray, List.set_cons_zero, List.set_cons_succ]
      refine wpAnyH_take (i := 12) (oi := ?oi_1152) (v := ?v_1152) ?hi_1152 (by kernel_rfl) (by kernel_rfl) (by kernel_rfl) (fun _ _ _ h => h) (Or.inl ⟨?hw_1152, ?hy_1152⟩) (by assumption) ?rest_1152
      case hi_1152 => (simp only [List.getElem?_toArray, List.getElem?_cons_zero, List.getElem?_cons_succ]; rfl)
      case hw_1152 => rfl
      case hy_1152 => (intro w hSw; (try dsimp only at hSw); go_simp; try with_reducible rfl)
      try simp only [Act.put, List.setIfInBounds_toArray, List.set_cons_zero, List.set_cons_succ]
      refine wpAnyH_ready (rs := [14]) (by kernel_rfl) (by simp) (AllReadyH.cons (o := ?o_14_1153) ?ho_14_1153 (fun K hK => ?_) AllReadyH.nil)
      case ho_14_1153 => (simp only [List.getElem?_toArray, List.getElem?_cons_zero, List.getElem?_cons_succ]; rfl)
      clear hHeld
      focus (go_simp)
      refine hK.out _ _ ?hS_1154 (fun hHeld => ?rest_1154)
      case hS_1154 => ((try dsimp only); first | (with_reducible assumption) | (with_reducible exact HM1.out) | (with_reducible exact HM2.out) | (with_reducible exact HM3.out) | (with_reducible exact HM4.out) | (with_reducible exact Hmk.out _ (bal (k6o hKK) _)) | ((with_reducible refine Hmk.out _ (Below.setCell (Below.setCell (Below.setCell (Below.setCell (Below.setCell (Below.setCell (k6o hKK) ?_ _) ?_ _) ?_ _) ?_ _) ?_ _) ?_ _)) <;> first | exact Nat.le_refl _ | exact Nat.le_succ _))
      clear hK K
      try simp only [Act.put, List.setIfInBounds_toArray, List.set_cons_zero, List.set_cons_succ]
      refine wpAnyH_take (i := 15) (oi := ?oi_1155) (v := ?v_1155) ?hi_1155 (by kernel_rfl) (by kernel_rfl) (by kernel_rfl) (fun _ _ _ h => h) (Or.inl ⟨?hw_1155, ?hy_1155⟩) (by assumption) ?rest_1155
      case hi_1155 => (simp only [List.getElem?_toArray, List.getElem?_cons_zero, List.getElem?_cons_succ]; rfl)
      case hw_1155 => rfl
      case hy_1155 => (intro w hSw; (try dsimp only at hSw); go_simp; try with_reducible rfl)
      try simp only [Act.put, List.setIfInBounds_toArray, List.set_cons_zero, List.set_cons_succ]
      refine wpAnyH_take (i := 16) (oi := ?oi_1156) (v := ?v_1156) ?hi_1156 (by kernel_rfl) (by kernel_rfl) (by kernel_rfl) (fun _ _ _ h => h) (Or.inl ⟨?hw_1156, ?hy_1156⟩) (by assumption) ?rest_1156
      case hi_1156 => (simp only [List.getElem?_toArray, List.getElem?_cons_zero, List.getElem?_cons_succ]; rfl)
      case hw_1156 => rfl
      case hy_1156 => (intro w hSw; (try dsimp only at hSw); go_simp; try with_reducible rfl)
      try simp only [Act.put, List.setIfInBounds_toArray, List.set_cons_zero, List.set_cons_succ]
      refine wpAnyH_take (i := 17) (oi := ?oi_1157) (v := ?v_1157) ?hi_1157 (by kernel_rfl) (by kernel_rfl) (by kernel_rfl) (fun _ _ _ h => h) (Or.inl ⟨?hw_1157, ?hy_1157⟩) (by assumption) ?rest_1157
      case hi_1157 => (simp only [List.getElem?_toArray, List.getElem?_cons_zero, List.getElem?_cons_succ]; rfl)
      case hw_1157 => rfl
      case hy_1157 => (intro w hSw; (try dsimp only at hSw); go_simp; try with_reducible rfl)
      try simp only [Act.put, List.setIfInBounds_toArray, List.set_cons_zero, List.set_cons_succ]
      refine wpAnyH_done (by kernel_rfl) ?_ _
      refine NoPanic.normal ?_
      rotate_left
      focus (go_simp)
      focus (first | (go_at_call 11; (with_reducible refine (Hpk.out _).mono ?_); rintro e w8 ⟨rfl, rfl⟩) | (go_at_call 10; (with_reducible refine (Hcall.out _ ?_).mono ?_); exact (k6o (by with_reducible first | exact hS | assumption)); rintro e w9 ⟨A5, c5, rfl, ho9, hb9⟩; dsimp only [sesVal]; have hKK := Hmk.out w9 (btr (k6o (by with_reducible first | exact hS | assumption)) hb9); try (first | (have hB9 : Bk w9 wi.heap.size zeroC 33 := (by with_reducible exact HZ1.out.later hb9); have y0 := hB9.cell 0 _ rfl; have y1 := hB9.cell 1 _ rfl; have y2 := hB9.cell 2 _ rfl; have y3 := hB9.cell 3 _ rfl; have y4 := hB9.cell 4 _ rfl; have y5 := hB9.cell 5 _ rfl; have f0 := hB9.frozen 0; have f1 := hB9.frozen 1; have f2 := hB9.frozen 2; have f3 := hB9.frozen 3; have f4 := hB9.frozen 4; have f5 := hB9.frozen 5) | (have hB9 : Bk w9 (wi.heap.size + 1) zeroC 33 := (by with_reducible exact HZ2.out.later hb9); have y0 := hB9.cell 0 _ rfl; have y1 := hB9.cell 1 _ rfl; have y2 := hB9.cell 2 _ rfl; have y3 := hB9.cell 3 _ rfl; have y4 := hB9.cell 4 _ rfl; have y5 := hB9.cell 5 _ rfl; have f0 := hB9.frozen 0; have f1 := hB9.frozen 1; have f2 := hB9.frozen 2; have f3 := hB9.frozen 3; have f4 := hB9.frozen 4; have f5 := hB9.frozen 5))))
      focus (go_wp2_with fail)
      have hOld := hHeld
      clear hHeld
      refine hK.out _ _ ?hS_1158 (fun hHeld => ?rest_1158)
      case hS_1158 => ((try dsimp only); first | (with_reducible assumption) | (with_reducible exact HM1.out) | (with_reducible exact HM2.out) | (with_reducible exact HM3.out) | (with_reducible exact HM4.out) | (with_reducible exact Hmk.out _ (bal (k6o hKK) _)) | ((with_reducible refine Hmk.out _ (Below.setCell (Below.setCell (Below.setCell (Below.setCell (Below.setCell (Below.setCell (k6o hKK) ?_ _) ?_ _) ?_ _) ?_ _) ?_ _) ?_ _)) <;> first | exact Nat.le_refl _ | exact Nat.le_succ _))
      clear hK K hOld
      try simp only [Act.put, List.setIfInBounds_toArray, List.set_cons_zero, List.set_cons_succ]
      refine wpAnyH_ready (rs := [2]) (by kernel_rfl) (by simp) (AllReadyH.cons (o := ?o_2_1159) ?ho_2_1159 (fun K hK => ?_) AllReadyH.nil)
      case ho_2_1159 => (simp only [List.getElem?_toArray, List.getElem?_cons_zero, List.getElem?_cons_succ]; rfl)
      clear hHeld
      focus (go_simp)
      refine hK.out _ _ ?hS_1160 (fun hHeld => ?rest_1160)
      case hS_1160 => ((try dsimp only); first | (with_reducible assumption) | (with_reducible exact HM1.out) | (with_reducible exact HM2.out) | (with_reducible exact HM3.out) | (with_reducible exact HM4.out) | (with_reducible exact Hmk.out _ (bal (k6o hKK) _)) | ((with_reducible refine Hmk.out _ (Below.setCell (Below.setCell (Below.setCell (Below.setCell (Below.setCell (Below.setCell (k6o hKK) ?_ _) ?_ _) ?_ _) ?_ _) ?_ _) ?_ _)) <;> first | exact Nat.le_refl _ | exact Nat.le_succ _))
      clear hK K
      try simp only [Act.put, List.setIfInBounds_toArray, List.set_cons_zero, List.set_cons_succ]
      refine wpAnyH_take (i := 5) (oi := ?oi_1161) (v := ?v_1161) ?hi_1161 (by kernel_rfl) (by kernel_rfl) (by kernel_rfl) (fun _ _ _ h => h) (Or.inl ⟨?hw_1161, ?hy_1161⟩) (by assumption) ?rest_1161
      case hi_1161 => (simp only [List.getElem?_toArray, List.getElem?_cons_zero, List.getElem?_cons_succ]; rfl)
      case hw_1161 => rfl
      case hy_1161 => (intro w hSw; (try dsimp only at hSw); go_simp; try with_reducible rfl)
      try simp only [Act.put, List.setIfInBounds_toArray, List.set_cons_zero, List.set_cons_succ]
      refine wpAnyH_ready (rs := [6]) (by kernel_rfl) (by simp) (AllReadyH.cons (o := ?o_6_1162) ?ho_6_1162 (fun K hK => ?_) AllReadyH.nil)
      case ho_6_1162 => (simp only [List.getElem?_toArray, List.getElem?_cons_zero, List.getElem?_cons_succ]; rfl)
      clear hHeld
      focus (go_simp)
      refine hK.out _ _ ?hS_1163 (fun hHeld => ?rest_1163)
      case hS_1163 => ((try dsimp only); first | (with_reducible assumption) | (with_reducible exact HM1.out) | (with_reducible exact HM2.out) | (with_reducible exact HM3.out) | (with_reducible exact HM4.out) | (with_reducible exact Hmk.out _ (bal (k6o hKK) _)) | ((with_reducible refine Hmk.out _ (Below.setCell (Below.setCell (Below.setCell (Below.setCell (Below.setCell (Below.setCell (k6o hKK) ?_ _) ?_ _) ?_ _) ?_ _) ?_ _) ?_ _)) <;> first | exact Nat.le_refl _ | exact Nat.le_succ _))
      clear hK K
      try simp only [Act.put, List.setIfInBounds_toArray, List.set_cons_zero, List.set_cons_succ]
      refine wpAnyH_ready (rs := [7]) (by kernel_rfl) (by simp) (AllReadyH.cons (o := ?o_7_1164) ?ho_7_1164 (fun K hK => ?_) AllReadyH.nil)
      case ho_7_1164 => (simp only [List.getElem?_toArray, List.getElem?_cons_zero, List.getElem?_cons_succ]; rfl)
      focus (go_simp)
      focus (first | (go_at_call 11; (with_reducible refine (Hpk.out _).mono ?_); rintro e w8 ⟨rfl, rfl⟩) | (go_at_call 10; (with_reducible refine (Hcall.out _ ?_).mono ?_); exact (k6o (by with_reducible first | exact hS | assumption)); rintro e w9 ⟨A5, c5, rfl, ho9, hb9⟩; dsimp only [sesVal]; have hKK := Hmk.out w9 (btr (k6o (by with_reducible first | exact hS | assumption)) hb9); try (first | (have hB9 : Bk w9 wi.heap.size zeroC 33 := (by with_reducible exact HZ1.out.later hb9); have y0 := hB9.cell 0 _ rfl; have y1 := hB9.cell 1 _ rfl; have y2 := hB9.cell 2 _ rfl; have y3 := hB9.cell 3 _ rfl; have y4 := hB9.cell 4 _ rfl; have y5 := hB9.cell 5 _ rfl; have f0 := hB9.frozen 0; have f1 := hB9.frozen 1; have f2 := hB9.frozen 2; have f3 := hB9.frozen 3; have f4 := hB9.frozen 4; have f5 := hB9.frozen 5) | (have hB9 : Bk w9 (wi.heap.size + 1) zeroC 33 := (by with_reducible exact HZ2.out.later hb9); have y0 := hB9.cell 0 _ rfl; have y1 := hB9.cell 1 _ rfl; have y2 := hB9.cell 2 _ rfl; have y3 := hB9.cell 3 _ rfl; have y4 := hB9.cell 4 _ rfl; have y5 := hB9.cell 5 _ rfl; have f0 := hB9.frozen 0; have f1 := hB9.frozen 1; have f2 := hB9.frozen 2; have f3 := hB9.frozen 3; have f4 := hB9.frozen 4; have f5 := hB9.frozen 5))))
      focus (go_wp2_with fail)
      have hOld := hHeld
      clear hHeld
      refine hK.out _ _ ?hS_1165 (fun hHeld => ?rest_1165)
      case hS_1165 => ((try dsimp only); first | (with_reducible assumption) | (with_reducible exact HM1.out) | (with_reducible exact HM2.out) | (with_reducible exact HM3.out) | (with_reducible exact HM4.out) | (with_reducible exact Hmk.out _ (bal (k6o hKK) _)) | ((with_reducible refine Hmk.out _ (Below.setCell (Below.setCell (Below.setCell (Below.setCell (Below.setCell (Below.setCell (k6o hKK) ?_ _) ?_ _) ?_ _) ?_ _) ?_ _) ?_ _)) <;> first | exact Nat.le_refl _ | exact Nat.le_succ _))
      clear hK K hOld
      try simp only [Act.put, List.setIfInBounds_toArray, List.set_cons_zero, List.set_cons_succ]
      refine wpAnyH_take (i := 8) (oi := ?oi_1166) (v := ?v_1166) ?hi_1166 (by kernel_rfl) (by kernel_rfl) (by kernel_rfl) (fun _ _ _ h => h) (Or.inl ⟨?hw_1166, ?hy_1166⟩) (by assumption) ?rest_1166
      case hi_1166 => (simp only [List.getElem?_toArray, List.getElem?_cons_zero, List.getElem?_cons_succ]; rfl)
      case hw_1166 => rfl
      case hy_1166 => (intro w hSw; (try dsimp only at hSw); go_simp; try with_reducible rfl)
      try simp only [Act.put, List.setIfInBounds_toArray, List.set_cons_zero, List.set_cons_succ]
      refine wpAnyH_take (i := 9) (oi := ?oi_1167) (v := ?v_1167) ?hi_1167 (by kernel_rfl) (by kernel_rfl) (by kernel_rfl) (fun _ _ _ h => h) (Or.inl ⟨?hw_1167, ?hy_1167⟩) (by assumption) ?rest_1167
      case hi_1167 => (simp only [List.getElem?_toArray, List.getElem?_cons_zero, List.getElem?_cons_succ]; rfl)
      case hw_1167 => rfl
      case hy_1167 => (intro w hSw; (try dsimp only at hSw); go_simp; try with_reducible rfl)
      try simp only [Act.put, List.setIfInBounds_toArray, List.set_cons_zero, List.set_cons_succ]
      refine wpAnyH_take (i := 10) (oi := ?oi_1168) (v := ?v_1168) ?hi_1168 (by kernel_rfl) (by kernel_rfl) (by kernel_rfl) (fun _ _ _ h => h) (Or.inl ⟨?hw_1168, ?hy_1168⟩) (by assumption) ?rest_1168
      case hi_1168 => (simp only [List.getElem?_toArray, List.getElem?_cons_zero, List.getElem?_cons_succ]; rfl)
      case hw_1168 => rfl
      case hy_1168 => (intro w hSw; (try dsimp only at hSw); go_simp; try with_reducible rfl)
      try simp only [Act.put, List.setIfInBounds_toArray, List.set_cons_zero, List.set_cons_succ]
      refine wpAnyH_take (i := 11) (oi := ?oi_1169) (v := ?v_1169) ?hi_1169 (by kernel_rfl) (by kernel_rfl) (by kernel_rfl) (fun _ _ _ h => h) (Or.inl ⟨?hw_1169, ?hy_1169⟩) (by assumption) ?rest_1169
      case hi_1169 => (simp only [List.getElem?_toArray, List.getElem?_cons_zero, List.getElem?_cons_succ]; rfl)
      case hw_1169 => rfl
      case hy_1169 => (intro w hSw; (try dsimp only at hSw); go_simp; try with_reducible rfl)
      try simp only [Act.put, List.setIfInBounds_toArray, List.set_cons_zero, List.set_cons_succ]
      refine wpAnyH_take (i := 12) (oi := ?oi_1170) (v := ?v_1170) ?hi_1170 (by kernel_rfl) (by kernel_rfl) (by kernel_rfl) (fun _ _ _ h => h) (Or.inl ⟨?hw_1170, ?hy_1170⟩) (by assumption) ?rest_1170
      case hi_1170 => (simp only [List.getElem?_toArray, List.getElem?_cons_zero, List.getElem?_cons_succ]; rfl)
      case hw_1170 => rfl
      case hy_1170 => (intro w hSw; (try dsimp only at hSw); go_simp; try with_reducible rfl)
      try simp only [Act.put, List.setIfInBounds_toArray, List.set_cons_zero, List.set_cons_succ]
      refine wpAnyH_ready (rs := [14]) (by kernel_rfl) (by simp) (AllReadyH.cons (o := ?o_14_1171) ?ho_14_1171 (fun K hK => ?_) AllReadyH.nil)
      case ho_14_1171 => (simp only [List.getElem?_toArray, List.getElem?_cons_zero, List.getElem?_cons_succ]; rfl)
      clear hHeld
      focus (go_simp)
      refine hK.out _ _ ?hS_1172 (fun hHeld => ?rest_1172)
      case hS_1172 => ((try dsimp only); first | (with_reducible assumption) | (with_reducible exact HM1.out) | (with_reducible exact HM2.out) | (with_reducible exact HM3.out) | (with_reducible exact HM4.out) | (with_reducible exact Hmk.out _ (bal (k6o hKK) _)) | ((with_reducible refine Hmk.out _ (Below.setCell (Below.setCell (Below.setCell (Below.setCell (Below.setCell (Below.setCell (k6o hKK) ?_ _) ?_ _) ?_ _) ?_ _) ?_ _) ?_ _)) <;> first | exact Nat.le_refl _ | exact Nat.le_succ _))
      clear hK K
      try simp only [Act.put, List.setIfInBounds_toArray, List.set_cons_zero, List.set_cons_succ]
      refine wpAnyH_take (i := 15) (oi := ?oi_1173) (v := ?v_1173) ?hi_1173 (by kernel_rfl) (by kernel_rfl) (by kernel_rfl) (fun _ _ _ h => h) (Or.inl ⟨?hw_1173, ?hy_1173⟩) (by assumption) ?rest_1173
      case hi_1173 => (simp only [List.getElem?_toArray, List.getElem?_cons_zero, List.getElem?_cons_succ]; rfl)
      case hw_1173 => rfl
      case hy_1173 => (intro w hSw; (try dsimp only at hSw); go_simp; try with_reducible rfl)
      try simp only [Act.put, List.setIfInBounds_toArray, List.set_cons_zero, List.set_cons_succ]
      refine wpAnyH_take (i := 16) (oi := ?oi_1174) (v := ?v_1174) ?hi_1174 (by kernel_rfl) (by kernel_rfl) (by kernel_rfl) (fun _ _ _ h => h) (Or.inl ⟨?hw_1174, ?hy_1174⟩) (by assumption) ?rest_1174
      case hi_1174 => (simp only [List.getElem?_toArray, List.getElem?_cons_zero, List.getElem?_cons_succ]; rfl)
      case hw_1174 => rfl
      case hy_1174 => (intro w hSw; (try dsimp only at hSw); go_simp; try with_reducible rfl)
      try simp only [Act.put, List.setIfInBounds_toArray, List.set_cons_zero, List.set_cons_succ]
      refine wpAnyH_take (i := 17) (oi := ?oi_1175) (v := ?v_1175) ?hi_1175 (by kernel_rfl) (by kernel_rfl) (by kernel_rfl) (fun _ _ _ h => h) (Or.inl ⟨?hw_1175, ?hy_1175⟩) (by assumption) ?rest_1175
      case hi_1175 => (simp only [List.getElem?_toArray, List.getElem?_cons_zero, List.getElem?_cons_succ]; rfl)
      case hw_1175 => rfl
      case hy_1175 => (intro w hSw; (try dsimp only at hSw); go_simp; try with_reducible rfl)
      try simp only [Act.put, List.setIfInBounds_toArray, List.set_cons_zero, List.set_cons_succ]
      refine wpAnyH_done (by kernel_rfl) ?_ _
      refine NoPanic.normal ?_
      rotate_left
      all_goals (
        first
          | (have hW := got_put (btr (bdr wi) (k6o hKK)) (show Bk w9 wi.heap.size zeroC 33 from hB9) ho9 (Nat.le_refl _)
             unfold put6 at hW
             clear hKK hb9 HM1 HM2 HM3 HM4 Hmk Hcall ho9 HZ1 HZ2 hB9 y0 y1 y2 y3 y4 y5 f0 f1 f2 f3 f4 f5 hC1 hC2 hC3
             generalize (((((w9.setCell ⟨wi.heap.size, 0, none⟩ (.int .i64 y.step)).setCell ⟨wi.heap.size, 1, none⟩ (.string y.frm.loc)).setCell ⟨wi.heap.size, 2, none⟩ (.string y.frm.dom)).setCell ⟨wi.heap.size, 3, none⟩ (.slice A5 y.rcp.length c5)).setCell ⟨wi.heap.size, 4, none⟩ (.string y.text)).setCell ⟨wi.heap.size, 5, none⟩ (.bool y.large) = W at *)
          | (have hW := got_put (btr (bdr wi) (k6o hKK)) (show Bk w9 (wi.heap.size + 1) zeroC 33 from hB9) ho9 (Nat.le_succ _)
             unfold put6 at hW
             clear hKK hb9 HM1 HM2 HM3 HM4 Hmk Hcall ho9 HZ1 HZ2 hB9 y0 y1 y2 y3 y4 y5 f0 f1 f2 f3 f4 f5 hC1 hC2 hC3
             generalize (((((w9.setCell ⟨wi.heap.size + 1, 0, none⟩ (.int .i64 y.step)).setCell ⟨wi.heap.size + 1, 1, none⟩ (.string y.frm.loc)).setCell ⟨wi.heap.size + 1, 2, none⟩ (.string y.frm.dom)).setCell ⟨wi.heap.size + 1, 3, none⟩ (.slice A5 y.rcp.length c5)).setCell ⟨wi.heap.size + 1, 4, none⟩ (.string y.text)).setCell ⟨wi.heap.size + 1, 5, none⟩ (.bool y.large) = W at *)
          | (have hW := got_new (btr (bdr wi) (k6o hKK)) ho9
             unfold sesCells at hW
             clear hKK hb9 HM1 HM2 HM3 HM4 Hmk Hcall ho9 HZ1 HZ2 hC1 hC2 hC3
             generalize w9.alloc (.cells #[.int .i64 y.step, .string y.frm.loc, .string y.frm.dom, .slice A5 y.rcp.length c5, .string y.text, .bool y.large] 33) = W at *))
      all_goals (
        have Hbf := Lib.hid (btr Hbw.out hW.bel)
        have n0 := hW.at_.bk.cell 0 _ rfl
        have n3 := hW.at_.bk.cell 3 _ rfl
        clear hW
        rcases Hye.out with ⟨h1, h2, h3⟩ | ⟨h1, h2, h3⟩ <;> (
          subst h1
          rw [h2] at n0
          rw [h3] at n3
          clear h2 h3
          go_wp2_with fail
          go_ret
          exact ⟨rfl, Hbf.out⟩))
end Go.Proofs.YtokeblpdaomagaaDoor
