/- The helper ready of the statements: what it returns. -/
import Derived.Test.YtokeblpdaomagaaDoorLmWords
import Derived.Test.YtokeblpdaomagaaDoorLmLine
import Derived.Test.YtokeblpdaomagaaDoorPost
import Derived.Deep.RegionHeld3
import Derived.WalkArith
namespace Go.Proofs.YtokeblpdaomagaaDoor
open Go.RowKit
set_option linter.unusedVariables false

theorem k8 {a1 a2 a3 a4 a5 a6 a7 a8 B : Prop} (k : a1 ∧ a2 ∧ a3 ∧ a4 ∧ a5 ∧ a6 ∧ a7 ∧ a8 ∧ B) : B := k.2.2.2.2.2.2.2.2
theorem strs_new (W : World) (s : ByteArray) : StrsAt (W.alloc (.cells #[.string s] 9)) (some ⟨W.heap.size, 0, none⟩) [s] :=
  .inr ⟨_, _, rfl, fun j hj => by
    obtain rfl : j = 0 := by simpa using hj
    exact (Bk.new W [.string s] 9).cell 0 _ rfl⟩
theorem put6_belowB {w W : World} {B r : Nat} (hb : Below B w W) (hr : B ≤ r) (x : Ses) (v : Value) : Below B w (put6 W r x v) :=
  (((((hb.setCell (p := ⟨r, 0, none⟩) hr _).setCell (p := ⟨r, 1, none⟩) hr _).setCell (p := ⟨r, 2, none⟩) hr _).setCell (p := ⟨r, 3, none⟩) hr _).setCell (p := ⟨r, 4, none⟩) hr _).setCell (p := ⟨r, 5, none⟩) hr _
/-- A session that was just put into a box. -/
structure Got (w W : World) (q : Nat) (y : Ses) (A : Option Addr) (c : Nat) : Prop where
  at_ : SesAt W q y A c
  bel : Below w.heap.size w W
theorem got_put {w w9 : World} {q : Nat} {y : Ses} {A : Option Addr} {c : Nat} (hb : Below w.heap.size w w9) (hB : Bk w9 q zeroC 33) (ho : w9.ownsRow 0 28 2 (.slice A y.rcp.length c) y.rcp.length (adrCells y.rcp)) (hq : w.heap.size ≤ q) : Got w (put6 w9 q y (.slice A y.rcp.length c)) q y A c :=
  ⟨⟨put6_bk hB _ _, put6_row hB _ _ _ ho⟩, put6_below hb hq _ _⟩
theorem got_new {w w9 : World} {y : Ses} {A : Option Addr} {c : Nat} (hb : Below w.heap.size w w9) (ho : w9.ownsRow 0 28 2 (.slice A y.rcp.length c) y.rcp.length (adrCells y.rcp)) : Got w (w9.alloc (.cells (sesCells y (.slice A y.rcp.length c)).toArray 33)) w9.heap.size y A c :=
  ⟨⟨Bk.new w9 _ _, row_later (bal (Below.refl _ _) _) ho⟩, bal hb _⟩
theorem bytes_mail (a : Adr) : (⟨#[77, 65, 73, 76, 32, 70, 82, 79, 77, 58, 60]⟩ : ByteArray) ++ a.loc ++ ⟨#[64]⟩ ++ a.dom ++ ⟨#[62]⟩ = mkS (mailL ++ angL a) := by
  apply bs_inj
  rw [bs_append, bs_append, bs_append, bs_append, bs_mkS]
  show [77, 65, 73, 76, 32, 70, 82, 79, 77, 58, 60] ++ bs a.loc ++ [64] ++ bs a.dom ++ [62] = _
  simp [mailL, angL]
theorem bytes_rcpt (a : Adr) : (⟨#[114, 99, 112, 116, 32, 116, 111, 58, 60]⟩ : ByteArray) ++ a.loc ++ ⟨#[64]⟩ ++ a.dom ++ ⟨#[62]⟩ = mkS (rcptl ++ angL a) := by
  apply bs_inj
  rw [bs_append, bs_append, bs_append, bs_append, bs_mkS]
  show [114, 99, 112, 116, 32, 116, 111, 58, 60] ++ bs a.loc ++ [64] ++ bs a.dom ++ [62] = _
  simp [rcptl, angL]
theorem rdyL_cell (a b : Adr) (j : Nat) (hj : j < 4) : ([.string lLhloXY, .string (mkS (mailL ++ angL a)), .string (mkS (rcptl ++ angL b)), .string lData] : List Value)[j]? = some (.string ((rdyL a b).getD j ⟨#[]⟩)) := by
  rcases (show j = 0 ∨ j = 1 ∨ j = 2 ∨ j = 3 by omega) with rfl | rfl | rfl | rfl <;> rfl
theorem rdyL_size (p q r s : ByteArray) (j : Nat) (hj : j < 4) : ((rdyL (adrOf p q) (adrOf r s)).getD j ⟨#[]⟩).size ≤ 2000 := by
  have h1 := adrOf_size p q
  have h2 := adrOf_size r s
  rcases (show j = 0 ∨ j = 1 ∨ j = 2 ∨ j = 3 by omega) with rfl | rfl | rfl | rfl
  · show lLhloXY.size ≤ 2000; decide
  · show (mkS (mailL ++ angL (adrOf p q))).size ≤ 2000
    rw [mkS_size, List.length_append, angL_len]; show 10 + _ ≤ _; omega
  · show (mkS (rcptl ++ angL (adrOf r s))).size ≤ 2000
    rw [mkS_size, List.length_append, angL_len]; show 8 + _ ≤ _; omega
  · show lData.size ≤ 2000; decide
theorem rdyC_cell (j : Nat) (hj : j < 4) : ([.int .i64 250, .int .i64 250, .int .i64 250, .int .i64 354] : List Value)[j]? = some (.int .i64 (rdyC.getD j 0)) := by
  rcases (show j = 0 ∨ j = 1 ∨ j = 2 ∨ j = 3 by omega) with rfl | rfl | rfl | rfl <;> rfl
theorem rdy_step (a b : Adr) (j : Nat) (hj : j < 4) : (rdyS a b j).step ≠ 4 := by
  rcases (show j = 0 ∨ j = 1 ∨ j = 2 ∨ j = 3 by omega) with rfl | rfl | rfl | rfl
  · show (0 : Int) ≠ 4; decide
  · show (1 : Int) ≠ 4; decide
  · show (2 : Int) ≠ 4; decide
  · show (3 : Int) ≠ 4; decide
set_option maxRecDepth 100000 in
set_option maxHeartbeats 8000000 in
theorem ready_calls (p : Post) (PA : Option Addr) (pc : Nat) (m : Int) (w : World) (hp : PostOk w p PA pc) (hm : w.cell? ⟨0, 0, none⟩ = some (.int .i64 m)) :
    Calls Tryd.prog 12 #[.agg (postCells p PA pc).toArray] w fun e w' => ∃ A c, e = .returned (.tuple #[sesVal (rdyS (adrOf p.frm.loc p.frm.dom) (adrOf p.rcv.loc p.rcv.dom) 4) (.slice A 1 c), .bool true]) ∧ w'.ownsRow 0 28 2 (.slice A 1 c) 1 (adrCells [adrOf p.rcv.loc p.rcv.dom]) ∧ Below w.heap.size w w' := by
  have hb1 : Below w.heap.size w ((w.alloc (.cells (postCells p PA pc).toArray 26)).alloc (.cells zeroC.toArray 33)) := bal (bal (Below.refl _ w) _) _
  have hP : Bk ((w.alloc (.cells (postCells p PA pc).toArray 26)).alloc (.cells zeroC.toArray 33)) w.heap.size (postCells p PA pc) 26 := (Bk.new w _ _).alloc _
  have hR := Bk.new (w.alloc (.cells (postCells p PA pc).toArray 26)) zeroC 33
  rw [show (w.alloc (.cells (postCells p PA pc).toArray 26)).heap.size = w.heap.size + 1 by simp] at hR
  have Hm := Lib.hid hm
  have Hb1 := Lib.hid hb1
  have HP := Lib.hid hP
  have HR := Lib.hid hR
  have f1 := hp.f1
  have f2 := hp.f2
  have r1 := hp.r1
  have r2 := hp.r2
  have hln := fun k hk => rdy_line p.frm.loc p.frm.dom p.rcv.loc p.rcv.dom k hk
  have hvd := vld_rdy p.frm.loc p.frm.dom p.rcv.loc p.rcv.dom
  have hls := rdyL_size p.frm.loc p.frm.dom p.rcv.loc p.rcv.dom
  have had := fun W => address_calls p.frm.loc p.frm.dom p.frm.words hp.f1 hp.f2 W
  have had2 := fun W => address_calls p.rcv.loc p.rcv.dom p.rcv.words hp.r1 hp.r2 W
  have hsz1 := adrOf_size p.frm.loc p.frm.dom
  have hsz2 := adrOf_size p.rcv.loc p.rcv.dom
  generalize adrOf p.frm.loc p.frm.dom = a at *
  generalize adrOf p.rcv.loc p.rcv.dom = b at *
  obtain ⟨al, ad⟩ := a
  obtain ⟨bl, bd⟩ := b
  simp only at hsz1 hsz2
  have Had := Lib.hid had
  have Had2 := Lib.hid had2
  have Hln := Lib.hid hln
  have Hvd := Lib.hid hvd
  have Hls := Lib.hid hls
  clear hb1 hP hR had had2 hm hp hln hvd hls
  simp only [postCells, zeroC] at Hb1 HP HR ⊢
  go_enter Tryd.func12, Tryd.ntmps12
  go_upto_region 1 with fail
  generalize (w.alloc (.cells #[.string p.frm.loc, .string p.frm.dom, .string p.frm.words, .string p.rcv.loc, .string p.rcv.dom, .string p.rcv.words, .slice PA p.lines.length pc, .string p.body] 26)).alloc (.cells #[.int .i64 0, .string ⟨#[]⟩, .string ⟨#[]⟩, .slice none 0 0, .string ⟨#[]⟩, .bool false] 33) = w1 at *
  have x0 := HP.out.cell 0 _ rfl
  have x1 := HP.out.cell 1 _ rfl
  have x2 := HP.out.cell 2 _ rfl
  go_wp2_with fail
  refine (Had.out w1).mono ?_
  rintro e w2 ⟨rfl, hb2⟩
  have HP2 := Lib.hid (HP.out.later hb2)
  have HR2 := Lib.hid (HR.out.later hb2)
  have Hb2 := Lib.hid (btr Hb1.out hb2)
  clear hb2 HP HR Hb1 x0 x1 x2
  dsimp only [adrVal]
  have hal : Below w2.heap.size w2 (w2.alloc (.cells #[.string al, .string ad] 28)) := bal (Below.refl _ _) _
  have hF := Bk.new w2 [.string al, .string ad] 28
  have HF := Lib.hid hF
  have HP3 := Lib.hid (HP2.out.later hal)
  have HR3 := Lib.hid (HR2.out.later hal)
  have Hb3 := Lib.hid (btr Hb2.out hal)
  clear hF hal HP2 HR2
  go_upto_region 2 with fail
  generalize w2.alloc (.cells #[.string al, .string ad] 28) = w3 at *
  have x3 := HP3.out.cell 3 _ rfl
  have x4 := HP3.out.cell 4 _ rfl
  have x5 := HP3.out.cell 5 _ rfl
  go_wp2_with fail
  refine (Had2.out w3).mono ?_
  rintro e w4 ⟨rfl, hb4⟩
  have HF4 := Lib.hid (HF.out.later hb4)
  have HR4 := Lib.hid (HR3.out.later hb4)
  have Hb4 := Lib.hid (btr Hb3.out hb4)
  clear hb4 HP3 HR3 HF Hb3 x3 x4 x5
  dsimp only [adrVal]
  have hal : Below w4.heap.size w4 (w4.alloc (.cells #[.string bl, .string bd] 28)) := bal (Below.refl _ _) _
  have hT := Bk.new w4 [.string bl, .string bd] 28
  have HT := Lib.hid hT
  have HF5 := Lib.hid (HF4.out.later hal)
  have HR5 := Lib.hid (HR4.out.later hal)
  have Hb5 := Lib.hid (btr Hb4.out hal)
  clear hT hal HF4 HR4
  go_upto_region 3 with fail
  generalize w4.alloc (.cells #[.string bl, .string bd] 28) = w5 at *
  have y0 := HF5.out.cell 0 _ rfl
  have y1 := HF5.out.cell 1 _ rfl
  have t0 := HT.out.cell 0 _ rfl
  have t1 := HT.out.cell 1 _ rfl
  have hcl : Below w5.heap.size w5 (w5.alloc (.cells #[.string ⟨#[76, 72, 76, 79, 32, 120, 46, 121]⟩, .string ((⟨#[77, 65, 73, 76, 32, 70, 82, 79, 77, 58, 60]⟩ : ByteArray) ++ al ++ ⟨#[64]⟩ ++ ad ++ ⟨#[62]⟩), .string ((⟨#[114, 99, 112, 116, 32, 116, 111, 58, 60]⟩ : ByteArray) ++ bl ++ ⟨#[64]⟩ ++ bd ++ ⟨#[62]⟩), .string ⟨#[68, 65, 84, 65]⟩] 9)) := bal (Below.refl _ _) _
  have hL := Bk.new w5 [.string ⟨#[76, 72, 76, 79, 32, 120, 46, 121]⟩, .string ((⟨#[77, 65, 73, 76, 32, 70, 82, 79, 77, 58, 60]⟩ : ByteArray) ++ al ++ ⟨#[64]⟩ ++ ad ++ ⟨#[62]⟩), .string ((⟨#[114, 99, 112, 116, 32, 116, 111, 58, 60]⟩ : ByteArray) ++ bl ++ ⟨#[64]⟩ ++ bd ++ ⟨#[62]⟩), .string ⟨#[68, 65, 84, 65]⟩] 9
  have HL := Lib.hid hL
  have Hcl := Lib.hid hcl
  clear hL hcl
  go_upto_region 4 with fail
  generalize w5.alloc (.cells #[.string ⟨#[76, 72, 76, 79, 32, 120, 46, 121]⟩, .string ((⟨#[77, 65, 73, 76, 32, 70, 82, 79, 77, 58, 60]⟩ : ByteArray) ++ al ++ ⟨#[64]⟩ ++ ad ++ ⟨#[62]⟩), .string ((⟨#[114, 99, 112, 116, 32, 116, 111, 58, 60]⟩ : ByteArray) ++ bl ++ ⟨#[64]⟩ ++ bd ++ ⟨#[62]⟩), .string ⟨#[68, 65, 84, 65]⟩] 9) = w6 at *
  have e1 := bytes_mail ⟨al, ad⟩
  have e2 := bytes_rcpt ⟨bl, bd⟩
  simp only at e1 e2
  have hL := HL.out
  rw [e1, e2] at hL
  have HL := Lib.hid hL
  have HT6 := Lib.hid (HT.out.later Hcl.out)
  have HR6 := Lib.hid (HR5.out.later Hcl.out)
  have Hb6 := Lib.hid (btr Hb5.out Hcl.out)
  clear e1 e2 hL HT HR5 HF5 Hcl y0 y1 t0 t1
  have hci : Below w6.heap.size w6 (w6.alloc (.cells #[.int .i64 250, .int .i64 250, .int .i64 250, .int .i64 354] 3)) := bal (Below.refl _ _) _
  have hC := Bk.new w6 [.int .i64 250, .int .i64 250, .int .i64 250, .int .i64 354] 3
  have HC := Lib.hid hC
  have Hci := Lib.hid hci
  clear hC hci
  go_upto_region 5 with fail
  generalize w6.alloc (.cells #[.int .i64 250, .int .i64 250, .int .i64 250, .int .i64 354] 3) = w7 at *
  have hcs : Below w7.heap.size w7 (w7.alloc (.cells #[.int .i64 0, .string ⟨#[]⟩, .string ⟨#[]⟩, .slice none 0 0, .string ⟨#[]⟩, .bool false] 33)) := bal (Below.refl _ _) _
  have hS := Bk.new w7 [.int .i64 0, .string ⟨#[]⟩, .string ⟨#[]⟩, .slice none 0 0, .string ⟨#[]⟩, .bool false] 33
  have HS := Lib.hid hS
  have Hcs := Lib.hid hcs
  have hl4 := HT6.out.lt
  have hlR := HR6.out.lt
  have hl6 := Hci.out.size
  have hlL := HL.out.lt
  have hlC := HC.out.lt
  have hw6 := Hb6.out.size
  have hlS := hS.lt
  clear hS hcs
  go_upto_region 6 with fail
  generalize w7.alloc (.cells #[.int .i64 0, .string ⟨#[]⟩, .string ⟨#[]⟩, .slice none 0 0, .string ⟨#[]⟩, .bool false] 33) = w8 at *
  have HL8 := Lib.hid ((HL.out.later Hci.out).later Hcs.out)
  have HC8 := Lib.hid (HC.out.later Hcs.out)
  have HT8 := Lib.hid ((HT6.out.later Hci.out).later Hcs.out)
  have HR8 := Lib.hid ((HR6.out.later Hci.out).later Hcs.out)
  have Hb8 := Lib.hid (btr (btr Hb6.out Hci.out) Hcs.out)
  have HS8 := Lib.hid (show SesAt w8 w7.heap.size (rdyS ⟨al, ad⟩ ⟨bl, bd⟩ 0) none 0 from ⟨HS.out, World.ownsRow_nil _ _ _ _⟩)
  clear HL HC HT6 HR6 Hb6 HS Hcs Hci
  go_wp2_with fail
  go_loopw [9] (fun i wr => ∃ (j : Nat) (A : Option Addr) (c : Nat), j ≤ 4 ∧ i = .int .i64 j ∧ SesAt wr w7.heap.size (rdyS ⟨al, ad⟩ ⟨bl, bd⟩ j) A c ∧ Below w7.heap.size w8 wr) (fun i _ => 4 - (intOf i).toNat)
  case atStart => exact ⟨0, none, 0, Nat.zero_le _, rfl, HS8.out, Below.refl _ _⟩
  case round =>
    obtain ⟨j, A, c, hj, rfl, hS, hb⟩ := hrel
    have HSr := Lib.hid hS
    have Hbr := Lib.hid hb
    have hLr := HL8.out.below hb (by omega)
    have hCr := HC8.out.below hb (by omega)
    have hTr := HT8.out.below hb (by omega)
    have hRr := HR8.out.below hb (by omega)
    have hbw : Below w.heap.size w wr := Hb8.out.trans (hb.mono (by omega))
    have hmr := cell_later hbw Hm.out
    have hsr := hb.size
    by_cases hlt : j < 4
    · have hlj := Hln.out j hlt
      have hlc := hLr.cell j _ (rdyL_cell ⟨al, ad⟩ ⟨bl, bd⟩ j hlt)
      have hcc := hCr.cell j _ (rdyC_cell j hlt)
      have hls := Hls.out j hlt
      have hv := Hvd.out j (by omega)
      have hns := rdy_step ⟨al, ad⟩ ⟨bl, bd⟩ j hlt
      generalize (rdyL ⟨al, ad⟩ ⟨bl, bd⟩).getD j ⟨#[]⟩ = line at *
      generalize rdyC.getD j 0 = code at *
      have hx0 := hS.bk
      have hput := fun (W : World) (A2 : Option Addr) (c2 : Nat) (hb2 : Below wr.heap.size wr W) (ho : W.ownsRow 0 28 2 (.slice A2 (rdyS ⟨al, ad⟩ ⟨bl, bd⟩ (j + 1)).rcp.length c2) (rdyS ⟨al, ad⟩ ⟨bl, bd⟩ (j + 1)).rcp.length (adrCells (rdyS ⟨al, ad⟩ ⟨bl, bd⟩ (j + 1)).rcp)) => (hS.later hb2).put ho
      generalize rdyS ⟨al, ad⟩ ⟨bl, bd⟩ j = x at *
      generalize hy : rdyS ⟨al, ad⟩ ⟨bl, bd⟩ (j + 1) = y at *
      have Hy := Lib.hid hy
      have Hput := Lib.hid hput
      have hd := bdr wr
      have hcall := fun (W : World) (K : Option Addr) (hW : Below wr.drew.heap.size wr.drew W) (hK : StrsAt W K [bl]) => line_at x A c line [bl] K 1 m W w7.heap.size ((hS.later hd).later hW) hv hls hK (by simp) (cell_later hW (cell_later hd hmr)) (fun h => absurd h hns)
      simp only [hlj, List.length_cons, List.length_nil, Nat.zero_add] at hcall
      unfold sesVal at hcall
      have s0 := hx0.cell 0 _ rfl
      have s1 := hx0.cell 1 _ rfl
      have s2 := hx0.cell 2 _ rfl
      have s3 := hx0.cell 3 _ rfl
      have s4 := hx0.cell 4 _ rfl
      have s5 := hx0.cell 5 _ rfl
      have t0 := hTr.cell 0 _ rfl
      have hmk := fun (W : World) (hW : Below wr.drew.heap.size wr.drew W) => And.intro (cell_later hW (cell_later hd s0)) (And.intro (cell_later hW (cell_later hd s1)) (And.intro (cell_later hW (cell_later hd s2)) (And.intro (cell_later hW (cell_later hd s3)) (And.intro (cell_later hW (cell_later hd s4)) (And.intro (cell_later hW (cell_later hd s5)) (And.intro (cell_later hW (cell_later hd t0)) (And.intro (cell_later hW (cell_later hd hlc)) hW)))))))
      have Hmk := Lib.hid hmk
      have Hcall := Lib.hid hcall
      have hKK := Hmk.out wr.drew (Below.refl _ _)
      have Hcc := Lib.hid hcc
      have HRr := Lib.hid hRr
      clear hmk hcall hd s0 s1 s2 s3 s4 s5 t0 hlc hcc hx0 hput hy hlj hls hv hns hLr hCr hTr hRr hS hb hmr
      go_wp2_with fail
      have hK1 : StrsAt ((wr.alloc (.cells #[.int .i64 0, .string ⟨#[]⟩, .string ⟨#[]⟩, .slice none 0 0, .string ⟨#[]⟩, .bool false] 33)).alloc (.cells #[.string bl] 9)).drew (some ⟨wr.heap.size + 1, 0, none⟩) [bl] := by
        have h := strs_new (wr.alloc (.cells #[.int .i64 0, .string ⟨#[]⟩, .string ⟨#[]⟩, .slice none 0 0, .string ⟨#[]⟩, .bool false] 33)) bl
        rw [show (wr.alloc (.cells #[.int .i64 0, .string ⟨#[]⟩, .string ⟨#[]⟩, .slice none 0 0, .string ⟨#[]⟩, .bool false] 33)).heap.size = wr.heap.size + 1 by simp] at h
        exact h
      have hK2 : StrsAt ((wr.alloc (.cells #[.string bl] 9)).alloc (.cells #[.int .i64 0, .string ⟨#[]⟩, .string ⟨#[]⟩, .slice none 0 0, .string ⟨#[]⟩, .bool false] 33)).drew (some ⟨wr.heap.size, 0, none⟩) [bl] := by
        have h := (strs_new wr bl).later (bal (Below.refl _ (wr.alloc (.cells #[.string bl] 9))) (.cells #[.int .i64 0, .string ⟨#[]⟩, .string ⟨#[]⟩, .slice none 0 0, .string ⟨#[]⟩, .bool false] 33))
        exact h
      have hK3 : StrsAt (wr.alloc (.cells #[.string bl] 9)).drew (some ⟨wr.heap.size, 0, none⟩) [bl] := strs_new wr bl
      have hZ1 : Bk ((wr.alloc (.cells #[.int .i64 0, .string ⟨#[]⟩, .string ⟨#[]⟩, .slice none 0 0, .string ⟨#[]⟩, .bool false] 33)).alloc (.cells #[.string bl] 9)).drew wr.heap.size zeroC 33 := (Bk.new wr zeroC 33).alloc _
      have hZ2 : Bk ((wr.alloc (.cells #[.string bl] 9)).alloc (.cells #[.int .i64 0, .string ⟨#[]⟩, .string ⟨#[]⟩, .slice none 0 0, .string ⟨#[]⟩, .bool false] 33)).drew (wr.heap.size + 1) zeroC 33 := by
        have h := Bk.new (wr.alloc (.cells #[.string bl] 9)) zeroC 33
        rw [show (wr.alloc (.cells #[.string bl] 9)).heap.size = wr.heap.size + 1 by simp] at h
        exact h
      have HK1 := Lib.hid hK1
      have HK2 := Lib.hid hK2
      have HK3 := Lib.hid hK3
      have HZ1 := Lib.hid hZ1
      have HZ2 := Lib.hid hZ2
      have hM1 := Hmk.out (wr.alloc (.cells #[.string bl] 9)).drew (bal (Below.refl _ wr.drew) (.cells #[.string bl] 9))
      have hM2 := Hmk.out (wr.alloc (.cells #[.int .i64 0, .string ⟨#[]⟩, .string ⟨#[]⟩, .slice none 0 0, .string ⟨#[]⟩, .bool false] 33)).drew (bal (Below.refl _ wr.drew) (.cells #[.int .i64 0, .string ⟨#[]⟩, .string ⟨#[]⟩, .slice none 0 0, .string ⟨#[]⟩, .bool false] 33))
      have hM3 := Hmk.out ((wr.alloc (.cells #[.string bl] 9)).alloc (.cells #[.int .i64 0, .string ⟨#[]⟩, .string ⟨#[]⟩, .slice none 0 0, .string ⟨#[]⟩, .bool false] 33)).drew (bal (bal (Below.refl _ wr.drew) (.cells #[.string bl] 9)) (.cells #[.int .i64 0, .string ⟨#[]⟩, .string ⟨#[]⟩, .slice none 0 0, .string ⟨#[]⟩, .bool false] 33))
      have hM4 := Hmk.out ((wr.alloc (.cells #[.int .i64 0, .string ⟨#[]⟩, .string ⟨#[]⟩, .slice none 0 0, .string ⟨#[]⟩, .bool false] 33)).alloc (.cells #[.string bl] 9)).drew (bal (bal (Below.refl _ wr.drew) (.cells #[.int .i64 0, .string ⟨#[]⟩, .string ⟨#[]⟩, .slice none 0 0, .string ⟨#[]⟩, .bool false] 33)) (.cells #[.string bl] 9))
      have HM1 := Lib.hid hM1
      have HM2 := Lib.hid hM2
      have HM3 := Lib.hid hM3
      have HM4 := Lib.hid hM4
      clear hM1 hM2 hM3 hM4
      have hj0 : (0 : Int) ≤ (j : Int) := by omega
      have hj4 : (j : Int) < 4 := by omega
      clear hK1 hK2 hK3 hZ1 hZ2
      go_region_held3 (fun W => W.cell? ⟨w7.heap.size, 0, none⟩ = some (.int .i64 x.step) ∧ W.cell? ⟨w7.heap.size, 1, none⟩ = some (.string x.frm.loc) ∧ W.cell? ⟨w7.heap.size, 2, none⟩ = some (.string x.frm.dom) ∧ W.cell? ⟨w7.heap.size, 3, none⟩ = some (.slice A x.rcp.length c) ∧ W.cell? ⟨w7.heap.size, 4, none⟩ = some (.string x.text) ∧ W.cell? ⟨w7.heap.size, 5, none⟩ = some (.bool x.large) ∧ W.cell? ⟨w4.heap.size, 0, none⟩ = some (.string bl) ∧ W.cell? ⟨w5.heap.size, j, none⟩ = some (.string line) ∧ Below wr.drew.heap.size wr.drew W) (first | (with_reducible exact hKK) | (with_reducible exact HM1.out) | (with_reducible exact HM2.out) | (with_reducible exact HM3.out) | (with_reducible exact HM4.out) | (with_reducible exact Hmk.out _ (bal (k8 hKK) _)) | ((with_reducible refine Hmk.out _ (Below.setCell (Below.setCell (Below.setCell (Below.setCell (Below.setCell (Below.setCell (k8 hKK) ?_ _) ?_ _) ?_ _) ?_ _) ?_ _) ?_ _)) <;> first | exact Nat.le_refl _ | exact Nat.le_succ _))
        (first | (go_at_call 10; (with_reducible refine (Hcall.out _ _ ?_ ?_).mono ?_); exact (k8 (by with_reducible first | exact hS | assumption)); (with_reducible first | exact HK3.out | exact HK1.out | exact HK2.out); rintro e w9 ⟨A5, c5, rfl, ho9, hb9⟩; dsimp only [sesVal]; have hKK := Hmk.out w9 (btr (k8 (by with_reducible first | exact hS | assumption)) hb9); try (first | (have hB9 : Bk w9 wr.heap.size zeroC 33 := (by with_reducible exact HZ1.out.later hb9); have y0 := hB9.cell 0 _ rfl; have y1 := hB9.cell 1 _ rfl; have y2 := hB9.cell 2 _ rfl; have y3 := hB9.cell 3 _ rfl; have y4 := hB9.cell 4 _ rfl; have y5 := hB9.cell 5 _ rfl; have f0 := hB9.frozen 0; have f1 := hB9.frozen 1; have f2 := hB9.frozen 2; have f3 := hB9.frozen 3; have f4 := hB9.frozen 4; have f5 := hB9.frozen 5) | (have hB9 : Bk w9 (wr.heap.size + 1) zeroC 33 := (by with_reducible exact HZ2.out.later hb9); have y0 := hB9.cell 0 _ rfl; have y1 := hB9.cell 1 _ rfl; have y2 := hB9.cell 2 _ rfl; have y3 := hB9.cell 3 _ rfl; have y4 := hB9.cell 4 _ rfl; have y5 := hB9.cell 5 _ rfl; have f0 := hB9.frozen 0; have f1 := hB9.frozen 1; have f2 := hB9.frozen 2; have f3 := hB9.frozen 3; have f4 := hB9.frozen 4; have f5 := hB9.frozen 5))))
      all_goals (
        first
          | (have hW := got_put (btr (bdr wr) (k8 hKK)) (show Bk w9 wr.heap.size zeroC 33 from hB9) ho9 (Nat.le_refl _)
             unfold put6 at hW
             clear hKK hb9 HM1 HM2 HM3 HM4 Hmk Hcall ho9 HK1 HK2 HK3 HZ1 HZ2 hB9 y0 y1 y2 y3 y4 y5 f0 f1 f2 f3 f4 f5
             generalize (((((w9.setCell ⟨wr.heap.size, 0, none⟩ (.int .i64 y.step)).setCell ⟨wr.heap.size, 1, none⟩ (.string y.frm.loc)).setCell ⟨wr.heap.size, 2, none⟩ (.string y.frm.dom)).setCell ⟨wr.heap.size, 3, none⟩ (.slice A5 y.rcp.length c5)).setCell ⟨wr.heap.size, 4, none⟩ (.string y.text)).setCell ⟨wr.heap.size, 5, none⟩ (.bool y.large) = W at *)
          | (have hW := got_put (btr (bdr wr) (k8 hKK)) (show Bk w9 (wr.heap.size + 1) zeroC 33 from hB9) ho9 (Nat.le_succ _)
             unfold put6 at hW
             clear hKK hb9 HM1 HM2 HM3 HM4 Hmk Hcall ho9 HK1 HK2 HK3 HZ1 HZ2 hB9 y0 y1 y2 y3 y4 y5 f0 f1 f2 f3 f4 f5
             generalize (((((w9.setCell ⟨wr.heap.size + 1, 0, none⟩ (.int .i64 y.step)).setCell ⟨wr.heap.size + 1, 1, none⟩ (.string y.frm.loc)).setCell ⟨wr.heap.size + 1, 2, none⟩ (.string y.frm.dom)).setCell ⟨wr.heap.size + 1, 3, none⟩ (.slice A5 y.rcp.length c5)).setCell ⟨wr.heap.size + 1, 4, none⟩ (.string y.text)).setCell ⟨wr.heap.size + 1, 5, none⟩ (.bool y.large) = W at *)
          | (have hW := got_new (btr (bdr wr) (k8 hKK)) ho9
             unfold sesCells at hW
             clear hKK hb9 HM1 HM2 HM3 HM4 Hmk Hcall ho9 HK1 HK2 HK3 HZ1 HZ2
             generalize w9.alloc (.cells #[.int .i64 y.step, .string y.frm.loc, .string y.frm.dom, .slice A5 y.rcp.length c5, .string y.text, .bool y.large] 33) = W at *))
      all_goals (
        have n0 := hW.at_.bk.cell 0 _ rfl
        have n1 := hW.at_.bk.cell 1 _ rfl
        have n2 := hW.at_.bk.cell 2 _ rfl
        have n3 := hW.at_.bk.cell 3 _ rfl
        have n4 := hW.at_.bk.cell 4 _ rfl
        have n5 := hW.at_.bk.cell 5 _ rfl
        have hx6 := (HSr.out.later hW.bel).bk
        have s0 := hx6.cell 0 _ rfl
        have s1 := hx6.cell 1 _ rfl
        have s2 := hx6.cell 2 _ rfl
        have s3 := hx6.cell 3 _ rfl
        have s4 := hx6.cell 4 _ rfl
        have s5 := hx6.cell 5 _ rfl
        have g0 := hx6.frozen 0
        have g1 := hx6.frozen 1
        have g2 := hx6.frozen 2
        have g3 := hx6.frozen 3
        have g4 := hx6.frozen 4
        have g5 := hx6.frozen 5
        have c0 := cell_later hW.bel Hcc.out
        have hfin := Hput.out W A5 c5 hW.bel hW.at_.row
        have hbf : Below w7.heap.size w8 (put6 W w7.heap.size y (.slice A5 y.rcp.length c5)) := put6_belowB (Hbr.out.trans (hW.bel.mono (by omega))) (Nat.le_refl _) _ _
        unfold put6 at hfin hbf
        have Hfin := Lib.hid hfin
        have Hbf := Lib.hid hbf
        clear hfin hbf hW hx6
        go_wp2_with fail
        go_roundw
        case rel => exact ⟨j + 1, A5, c5, by omega, by go_num, by rw [Hy.out]; exact Hfin.out, Hbf.out⟩
        case measure => simp [intOf]; omega)
    · obtain rfl : j = 4 := by omega
      have hx0 : SesAt wr w7.heap.size ⟨4, ⟨al, ad⟩, [⟨bl, bd⟩], ⟨#[]⟩, false⟩ A c := hS
      have s0 : wr.cell? ⟨w7.heap.size, 0, none⟩ = some (.int .i64 4) := hx0.bk.cell 0 _ rfl
      have s1 : wr.cell? ⟨w7.heap.size, 1, none⟩ = some (.string al) := hx0.bk.cell 1 _ rfl
      have s2 : wr.cell? ⟨w7.heap.size, 2, none⟩ = some (.string ad) := hx0.bk.cell 2 _ rfl
      have s3 : wr.cell? ⟨w7.heap.size, 3, none⟩ = some (.slice A 1 c) := hx0.bk.cell 3 _ rfl
      have s4 : wr.cell? ⟨w7.heap.size, 4, none⟩ = some (.string ⟨#[]⟩) := hx0.bk.cell 4 _ rfl
      have s5 : wr.cell? ⟨w7.heap.size, 5, none⟩ = some (.bool false) := hx0.bk.cell 5 _ rfl
      have r0 := hRr.cell 0 _ rfl
      have r1 := hRr.cell 1 _ rfl
      have r2 := hRr.cell 2 _ rfl
      have r3 := hRr.cell 3 _ rfl
      have r4 := hRr.cell 4 _ rfl
      have r5 := hRr.cell 5 _ rfl
      have g0 := hRr.frozen 0
      have g1 := hRr.frozen 1
      have g2 := hRr.frozen 2
      have g3 := hRr.frozen 3
      have g4 := hRr.frozen 4
      have g5 := hRr.frozen 5
      have hZ := put6_bk hRr ⟨4, ⟨al, ad⟩, [⟨bl, bd⟩], ⟨#[]⟩, false⟩ (.slice A 1 c)
      have hbf := put6_below hbw (Nat.le_succ _) ⟨4, ⟨al, ad⟩, [⟨bl, bd⟩], ⟨#[]⟩, false⟩ (.slice A 1 c)
      have hof := put6_row hRr ⟨4, ⟨al, ad⟩, [⟨bl, bd⟩], ⟨#[]⟩, false⟩ (.slice A 1 c) _ hx0.row
      unfold put6 at hZ hbf hof
      dsimp only at hZ hbf hof
      have hZd := hZ.later (bdr _)
      have hofd := row_later (bdr _) hof
      have hbfd := btr hbf (bdr _)
      have z0 := hZd.cell 0 _ rfl
      have z1 := hZd.cell 1 _ rfl
      have z2 := hZd.cell 2 _ rfl
      have z3 := hZd.cell 3 _ rfl
      have z4 := hZd.cell 4 _ rfl
      have z5 := hZd.cell 5 _ rfl
      have Hbf := Lib.hid hbfd
      have Hof := Lib.hid hofd
      have hne : w.heap.size + 1 ≠ w7.heap.size := by omega
      have hk := ((((((show Bk wr w7.heap.size (sesCells ⟨4, ⟨al, ad⟩, [⟨bl, bd⟩], ⟨#[]⟩, false⟩ (.slice A 1 c)) 33 from hx0.bk).other hne 0 (.int .i64 4)).other hne 1 (.string al)).other hne 2 (.string ad)).other hne 3 (.slice A 1 c)).other hne 4 (.string ⟨#[]⟩)).other hne 5 (.bool false)
      have hkd := hk.later (bdr _)
      have hkz : ((((((wr.setCell ⟨w.heap.size + 1, 0, none⟩ (.int .i64 4)).setCell ⟨w.heap.size + 1, 1, none⟩ (.string al)).setCell ⟨w.heap.size + 1, 2, none⟩ (.string ad)).setCell ⟨w.heap.size + 1, 3, none⟩ (.slice A 1 c)).setCell ⟨w.heap.size + 1, 4, none⟩ (.string ⟨#[]⟩)).setCell ⟨w.heap.size + 1, 5, none⟩ (.bool false)).drew.cell? ⟨w7.heap.size, 0, none⟩ = some (.int .i64 4) ∧ ((((((wr.setCell ⟨w.heap.size + 1, 0, none⟩ (.int .i64 4)).setCell ⟨w.heap.size + 1, 1, none⟩ (.string al)).setCell ⟨w.heap.size + 1, 2, none⟩ (.string ad)).setCell ⟨w.heap.size + 1, 3, none⟩ (.slice A 1 c)).setCell ⟨w.heap.size + 1, 4, none⟩ (.string ⟨#[]⟩)).setCell ⟨w.heap.size + 1, 5, none⟩ (.bool false)).drew.cell? ⟨w7.heap.size, 1, none⟩ = some (.string al) ∧ ((((((wr.setCell ⟨w.heap.size + 1, 0, none⟩ (.int .i64 4)).setCell ⟨w.heap.size + 1, 1, none⟩ (.string al)).setCell ⟨w.heap.size + 1, 2, none⟩ (.string ad)).setCell ⟨w.heap.size + 1, 3, none⟩ (.slice A 1 c)).setCell ⟨w.heap.size + 1, 4, none⟩ (.string ⟨#[]⟩)).setCell ⟨w.heap.size + 1, 5, none⟩ (.bool false)).drew.cell? ⟨w7.heap.size, 2, none⟩ = some (.string ad) ∧ ((((((wr.setCell ⟨w.heap.size + 1, 0, none⟩ (.int .i64 4)).setCell ⟨w.heap.size + 1, 1, none⟩ (.string al)).setCell ⟨w.heap.size + 1, 2, none⟩ (.string ad)).setCell ⟨w.heap.size + 1, 3, none⟩ (.slice A 1 c)).setCell ⟨w.heap.size + 1, 4, none⟩ (.string ⟨#[]⟩)).setCell ⟨w.heap.size + 1, 5, none⟩ (.bool false)).drew.cell? ⟨w7.heap.size, 3, none⟩ = some (.slice A 1 c) ∧ ((((((wr.setCell ⟨w.heap.size + 1, 0, none⟩ (.int .i64 4)).setCell ⟨w.heap.size + 1, 1, none⟩ (.string al)).setCell ⟨w.heap.size + 1, 2, none⟩ (.string ad)).setCell ⟨w.heap.size + 1, 3, none⟩ (.slice A 1 c)).setCell ⟨w.heap.size + 1, 4, none⟩ (.string ⟨#[]⟩)).setCell ⟨w.heap.size + 1, 5, none⟩ (.bool false)).drew.cell? ⟨w7.heap.size, 4, none⟩ = some (.string ⟨#[]⟩) ∧ ((((((wr.setCell ⟨w.heap.size + 1, 0, none⟩ (.int .i64 4)).setCell ⟨w.heap.size + 1, 1, none⟩ (.string al)).setCell ⟨w.heap.size + 1, 2, none⟩ (.string ad)).setCell ⟨w.heap.size + 1, 3, none⟩ (.slice A 1 c)).setCell ⟨w.heap.size + 1, 4, none⟩ (.string ⟨#[]⟩)).setCell ⟨w.heap.size + 1, 5, none⟩ (.bool false)).drew.cell? ⟨w7.heap.size, 5, none⟩ = some (.bool false) := ⟨hkd.cell 0 _ rfl, hkd.cell 1 _ rfl, hkd.cell 2 _ rfl, hkd.cell 3 _ rfl, hkd.cell 4 _ rfl, hkd.cell 5 _ rfl⟩
      have hKK : wr.drew.cell? ⟨w7.heap.size, 0, none⟩ = some (.int .i64 4) ∧ wr.drew.cell? ⟨w7.heap.size, 1, none⟩ = some (.string al) ∧ wr.drew.cell? ⟨w7.heap.size, 2, none⟩ = some (.string ad) ∧ wr.drew.cell? ⟨w7.heap.size, 3, none⟩ = some (.slice A 1 c) ∧ wr.drew.cell? ⟨w7.heap.size, 4, none⟩ = some (.string ⟨#[]⟩) ∧ wr.drew.cell? ⟨w7.heap.size, 5, none⟩ = some (.bool false) := ⟨s0, s1, s2, s3, s4, s5⟩
      have HKz := Lib.hid hkz
      have HKr := Lib.hid hKK
      clear hZ hbf hof hx0 hS hb hLr hCr hTr hRr hmr hk hkz hne hkd hZd hofd hbfd
      go_wp2_with fail
      go_region_held3 (fun W => W.cell? ⟨w7.heap.size, 0, none⟩ = some (.int .i64 4) ∧ W.cell? ⟨w7.heap.size, 1, none⟩ = some (.string al) ∧ W.cell? ⟨w7.heap.size, 2, none⟩ = some (.string ad) ∧ W.cell? ⟨w7.heap.size, 3, none⟩ = some (.slice A 1 c) ∧ W.cell? ⟨w7.heap.size, 4, none⟩ = some (.string ⟨#[]⟩) ∧ W.cell? ⟨w7.heap.size, 5, none⟩ = some (.bool false)) (first | (with_reducible exact hKK) | (with_reducible exact HKz.out)) (fail)
      all_goals (
        go_wp2_with fail
        exact bodyPost_ret (v := .tuple #[sesVal (rdyS ⟨al, ad⟩ ⟨bl, bd⟩ 4) (.slice A 1 c), .bool true]) (by simp [results, sesVal, rdyS, Tryd.results12, go_sem, z0, z1, z2, z3, z4, z5]) rfl ⟨A, c, rfl, Hof.out, Hbf.out⟩)
end Go.Proofs.YtokeblpdaomagaaDoor
