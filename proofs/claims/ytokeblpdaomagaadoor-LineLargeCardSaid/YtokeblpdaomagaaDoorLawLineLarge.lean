/- A letter that is too long is marked, and cut off at a whole line. -/
import Derived.Test.YtokeblpdaomagaaDoorLmLgP
import Derived.Test.YtokeblpdaomagaaDoorLmReady
import Derived.Laws.MakeOwn
import Derived.Deep.OwnRows
namespace Go.Proofs.YtokeblpdaomagaaDoor
open Go.RowKit
set_option linter.unusedVariables false

theorem info_u8L : (Tryd.prog.info? 5).map (fun i => (i.zero, i.size, i.bytes)) = some (some (.int .u8 0), 1, 1) := by kernel_rfl
theorem make_u8 (k : Nat) (hk : k ≤ 1000) (W : World) : Sem.run Tryd.prog (Instr.makeSlice 40 (.int .i64 (k : Int)) (.int .i64 (k : Int))) W = .ok (.slice (some ⟨W.heap.size, 0, none⟩) k k) (W.alloc (.cells (madeCells #[.int .u8 0] k) 5)) := by
  obtain ⟨i0, hi, hz0, hz1, hz2⟩ := info_parts info_u8L
  have h := run_make (P := Tryd.prog) W 40 5 i0 _ Tryd.underlying40 hi hz0 .i64 .i64 k k (by omega) (by omega) (by rw [hz2]; omega) (by omega)
  rw [hz1] at h
  simp only [Int.toNat_natCast, Nat.mul_one] at h
  exact h
theorem conv_zer (k : Nat) (hk : 1 ≤ k) (W : World) : (convert 40 9 (.slice (some ⟨W.heap.size, 0, none⟩) k k)).run Tryd.prog (W.alloc (.cells (madeCells #[.int .u8 0] k) 5)) = .ok (.string (zerS k)) (W.alloc (.cells (madeCells #[.int .u8 0] k) 5)) := by
  have hr := World.rowIs_made W (.int .u8 0) k 5
  have h1 := run_convert_bytes_arg (P := Tryd.prog) (W.alloc (.cells (madeCells #[.int .u8 0] k) 5)) 40 5 Tryd.underlying40 Tryd.underlying5 W.heap.size 0 k k ((List.replicate k (0 : UInt8)).map fun c => (c.toNat : Int)) (by rw [List.length_map, List.length_replicate]) (fun i hi => by
    rw [Nat.zero_add, hr.cell hi]
    simp [List.getD_eq_getElem?_getD, hi]) 9 Tryd.underlying9
  rw [strOfNums_bytes] at h1
  exact h1
theorem k6 {a1 a2 a3 a4 a5 a6 B : Prop} (k : a1 ∧ a2 ∧ a3 ∧ a4 ∧ a5 ∧ a6 ∧ B) : B := k.2.2.2.2.2.2
set_option maxRecDepth 100000 in
set_option maxHeartbeats 8000000 in
theorem lineLarge_walk (p : Post) (PA : Option Addr) (pc : Nat) (n : Int) (long : Int) (m : Int) (w : World) (hp : PostOk w p PA pc) (hn : (Lit.int .i64 n).wf = true) (hlg : (Lit.int .i64 long).wf = true) (hm : w.cell? ⟨0, 0, none⟩ = some (.int .i64 m)) :
    Calls Tryd.prog 5 #[.agg (postCells p PA pc).toArray, .int .i64 n, .int .i64 long] w fun e w' => e = .returned (.bool true) ∧ Below w.heap.size w w' := by
  have hb1 : Below w.heap.size w (w.alloc (.cells (postCells p PA pc).toArray 26)) := bal (Below.refl _ w) _
  have hrd := ready_calls p PA pc m _ (hp.later hb1) (cell_later hb1 hm)
  have Hm := Lib.hid hm
  have Hb1 := Lib.hid hb1
  have Hrd := Lib.hid hrd
  have Hvd := Lib.hid (lg_vld p.frm.loc p.frm.dom p.rcv.loc p.rcv.dom)
  clear hb1 hm hp hrd
  generalize adrOf p.frm.loc p.frm.dom = a at *
  generalize adrOf p.rcv.loc p.rcv.dom = b at *
  simp only [postCells] at Hb1 Hrd ⊢
  go_enter Tryd.func5, Tryd.ntmps5
  go_wp2_with fail
  generalize w.alloc (.cells #[.string p.frm.loc, .string p.frm.dom, .string p.frm.words, .string p.rcv.loc, .string p.rcv.dom, .string p.rcv.words, .slice PA p.lines.length pc, .string p.body] 26) = w1 at *
  refine Hrd.out.mono ?_
  rintro e w2 ⟨A, c, rfl, ho2, hb2⟩
  have Hb2 := Lib.hid (btr Hb1.out hb2)
  have Ho2 := Lib.hid ho2
  clear ho2 hb2 Hrd
  dsimp only [sesVal, rdyS]
  have hS0 := Bk.new w2 [.int .i64 4, .string a.loc, .string a.dom, .slice A 1 c, .string ⟨#[]⟩, .bool false] 33
  have hal : Below w2.heap.size w2 (w2.alloc (.cells #[.int .i64 4, .string a.loc, .string a.dom, .slice A 1 c, .string ⟨#[]⟩, .bool false] 33)) := bal (Below.refl _ _) _
  have HS0 := Lib.hid hS0
  have Hal := Lib.hid hal
  clear hS0 hal
  go_upto_region 2 with fail
  generalize w2.alloc (.cells #[.int .i64 4, .string a.loc, .string a.dom, .slice A 1 c, .string ⟨#[]⟩, .bool false] 33) = w3 at *
  have hsA : SesAt w3 w2.heap.size (lgS a b 0 0) A c := ⟨HS0.out, row_later Hal.out Ho2.out⟩
  have Hb3 := Lib.hid (btr Hb2.out Hal.out)
  have hsb := Hb2.out.size
  have HsA := Lib.hid hsA
  clear hsA HS0 Ho2 Hal Hb2
  generalize w2.heap.size = sb at *
  go_wp2_with fail
  refine (picked_calls long 200 w3 hlg (by decide) (by decide)).mono ?_
  rintro e w' ⟨rfl, rfl⟩
  have hq := pickN_lt long 200 (by decide)
  generalize pickN long 200 = q at *
  have hq0 : (0 : Int) ≤ (q : Int) := by omega
  have hq1 : (q : Int) < 200 := by omega
  go_upto_region 3 with fail
  have hmk := make_u8 (1 + q) (by omega) w3
  have hcv := conv_zer (1 + q) (by omega) w3
  have hcs := World.alloc_heap_new w3 (.cells (madeCells #[.int .u8 0] (1 + q)) 5)
  have hb4 : Below w3.heap.size w3 (w3.alloc (.cells (madeCells #[.int .u8 0] (1 + q)) 5)) := bal (Below.refl _ _) _
  have Hb4 := Lib.hid hb4
  rw [show (((1 + q : Nat)) : Int) = 1 + (q : Int) by omega] at hmk
  clear hb4 hcs
  go_upto_region 4 with fail
  clear hmk hcv
  generalize w3.alloc (.cells (madeCells #[.int .u8 0] (1 + q)) 5) = w4 at *
  have HsA4 := Lib.hid (show SesAt w4 sb (lgS a b (1 + q) 0) A c from HsA.out.later Hb4.out)
  have Hb5 := Lib.hid (btr Hb3.out Hb4.out)
  have hl3 := HsA.out.bk.lt
  clear HsA Hb3
  have hks : (zerS (1 + q)).size ≤ 2000 := by rw [zerS_size]; omega
  have hfc := lgS_facts a b (1 + q)
  have hln := fun i => lg_line a b (1 + q) i []
  have hen := lg_end a b (1 + q)
  have hvd := Hvd.out (1 + q)
  have Hen := Lib.hid hen
  have Hfc := Lib.hid hfc
  have Hln := Lib.hid hln
  have Hvd2 := Lib.hid hvd
  have hsu : ∀ i, lgS a b (1 + q) (i + 1) = lgS a b (1 + q) (i + 1) := fun _ => rfl
  clear hfc hln hen hvd Hvd hsu
  generalize lgS a b (1 + q) = L at *
  have hzd : zerS (1 + q) ≠ dotS1 := zer_dot _
  have Hzd := Lib.hid hzd
  clear hzd
  generalize zerS (1 + q) = line at *
  go_wp2_with fail
  refine (picked_calls n 60 w4 hn (by decide) (by decide)).mono ?_
  rintro e w' ⟨rfl, rfl⟩
  have hk := pickN_lt n 60 (by decide)
  generalize pickN n 60 = k at *
  have hk0 : (0 : Int) ≤ (k : Int) := by omega
  go_wp2_with fail
  go_loopw [12] (fun i wr => ∃ (j : Nat) (A : Option Addr) (c : Nat), j ≤ k ∧ i = .int .i64 j ∧ SesAt wr sb (L j) A c ∧ Below w.heap.size w wr) (fun i _ => k - (intOf i).toNat)
  case atStart => exact ⟨0, A, c, Nat.zero_le _, rfl, HsA4.out, Hb5.out⟩
  case round =>
    obtain ⟨j, A, c, hj, rfl, hS, hb⟩ := hrel
    have HS := Lib.hid hS
    have Hb := Lib.hid hb
    by_cases hlt : j < k
    · have hL := line_at (L j) A c line [] none 0 m _ sb hS (Hvd2.out j) hks (.inl rfl) (by decide) (cell_later hb Hm.out) (fun _ => Hzd.out)
      rw [Hln.out j] at hL
      have hx0 := hS.bk
      have Hnx := Lib.hid (fun (W : World) (A2 : Option Addr) (c2 : Nat) (hb2 : Below wr.heap.size wr W) (ho : W.ownsRow 0 28 2 (.slice A2 (L (j + 1)).rcp.length c2) (L (j + 1)).rcp.length (adrCells (L (j + 1)).rcp)) => (hS.later hb2).put ho)
      generalize L j = x at *
      generalize hy : L (j + 1) = y at *
      have Hy := Lib.hid hy
      unfold sesVal at hL
      have HL := Lib.hid hL
      have s0 := hx0.cell 0 _ rfl
      have s1 := hx0.cell 1 _ rfl
      have s2 := hx0.cell 2 _ rfl
      have s3 := hx0.cell 3 _ rfl
      have s4 := hx0.cell 4 _ rfl
      have s5 := hx0.cell 5 _ rfl
      clear hL hx0 hS hb hy
      go_wp2_with fail
      refine HL.out.mono ?_
      rintro e w5 ⟨A2, c2, rfl, ho5, hb5⟩
      have Ho5 := Lib.hid ho5
      have Hb5 := Lib.hid hb5
      clear hb5 ho5 s0 s1 s2 s3 s4 s5
      dsimp only [sesVal]
      have hN := Bk.new w5 [.int .i64 y.step, .string y.frm.loc, .string y.frm.dom, .slice A2 y.rcp.length c2, .string y.text, .bool y.large] 33
      have hbN : Below w5.heap.size w5 (w5.alloc (.cells #[.int .i64 y.step, .string y.frm.loc, .string y.frm.dom, .slice A2 y.rcp.length c2, .string y.text, .bool y.large] 33)) := bal (Below.refl _ _) _
      have HN := Lib.hid hN
      have HbN := Lib.hid hbN
      clear hN hbN
      go_upto_region 9 with fail
      generalize w5.alloc (.cells #[.int .i64 y.step, .string y.frm.loc, .string y.frm.dom, .slice A2 y.rcp.length c2, .string y.text, .bool y.large] 33) = w6 at *
      have Hb6 := Lib.hid (btr Hb5.out HbN.out)
      have hS6 := HS.out.later Hb6.out
      have Ho6 := Lib.hid (row_later HbN.out Ho5.out)
      have n0 := HN.out.cell 0 _ rfl
      have n1 := HN.out.cell 1 _ rfl
      have n2 := HN.out.cell 2 _ rfl
      have n3 := HN.out.cell 3 _ rfl
      have n4 := HN.out.cell 4 _ rfl
      have n5 := HN.out.cell 5 _ rfl
      have s0 := hS6.bk.cell 0 _ rfl
      have s1 := hS6.bk.cell 1 _ rfl
      have s2 := hS6.bk.cell 2 _ rfl
      have s3 := hS6.bk.cell 3 _ rfl
      have s4 := hS6.bk.cell 4 _ rfl
      have s5 := hS6.bk.cell 5 _ rfl
      have g0 := hS6.bk.frozen 0
      have g1 := hS6.bk.frozen 1
      have g2 := hS6.bk.frozen 2
      have g3 := hS6.bk.frozen 3
      have g4 := hS6.bk.frozen 4
      have g5 := hS6.bk.frozen 5
      have hfin := Hnx.out w6 A2 c2 Hb6.out Ho6.out
      have hbf : Below w.heap.size w (put6 w6 sb y (.slice A2 y.rcp.length c2)) := put6_below (btr Hb.out Hb6.out) hsb _ _
      unfold put6 at hfin hbf
      have Hfin := Lib.hid hfin
      have Hbf := Lib.hid hbf
      clear hS6 hfin hbf
      go_wp2_with fail
      go_roundw
      case rel => exact ⟨j + 1, A2, c2, by omega, by go_num, by rw [Hy.out]; exact Hfin.out, Hbf.out⟩
      case measure => simp [intOf]; omega
    · obtain rfl : j = k := by omega
      clear hlt
      obtain ⟨P, hP⟩ : ∃ P : Nat, P = j * (1 + q + 2) := ⟨_, rfl⟩
      have hPle : P ≤ 60 * 202 := by rw [hP]; exact Nat.mul_le_mul (by omega) (by omega)
      have hPi : (j : Int) * (1 + (q : Int) + 2) = (P : Int) := by rw [hP]; push_cast; rfl
      have hfc := Hfc.out j
      have hen := Hen.out j
      have hvd := Hvd2.out j
      rw [← hP] at hen
      have hx0 := hS.bk
      have s0 := hx0.cell 0 _ rfl
      have s1 := hx0.cell 1 _ rfl
      have s2 := hx0.cell 2 _ rfl
      have s3 := hx0.cell 3 _ rfl
      have s4 := hx0.cell 4 _ rfl
      have s5 := hx0.cell 5 _ rfl
      have hst := hfc.1
      have hP0 : (0 : Int) ≤ (P : Int) := by omega
      have hP9 : (P : Int) ≤ 12120 := by omega
      have HP := Lib.hid hP
      clear hP hPle hfc hj
      by_cases hw : P ≤ 2000
      · rw [if_pos hw] at hen
        obtain ⟨hlr, hts⟩ := hen
        generalize L j = x at *
        have hwi : (P : Int) ≤ 2000 := by omega
        rw [hlr] at s5
        rw [hst] at s0
        have hti : (x.text.size : Int) = (P : Int) := by rw [hts]
        go_wp2_with fail
        go_ret
        exact ⟨rfl, Hb.out⟩
      · rw [if_neg hw] at hen
        obtain ⟨hlr, hts⟩ := hen
        generalize L j = x at *
        have hwi : ¬ (P : Int) ≤ 2000 := by omega
        rw [hlr] at s5
        rw [hst] at s0
        obtain ⟨D, hD⟩ : ∃ D : Nat, D = 2000 / (1 + q + 2) := ⟨_, rfl⟩
        rw [← hD] at hts
        have hDi : (2000 : Int).tdiv (1 + (q : Int) + 2) = (D : Int) := by
          rw [hD, Int.tdiv_eq_ediv_of_nonneg (by decide)]; push_cast; rfl
        have hDle : D ≤ 2000 := by rw [hD]; exact Nat.div_le_self _ _
        obtain ⟨T, hT⟩ : ∃ T : Nat, T = D * (1 + q + 2) := ⟨_, rfl⟩
        have hTle : T ≤ 2000 := by rw [hT, hD]; exact Nat.div_mul_le_self _ _
        have hTi : (D : Int) * (1 + (q : Int) + 2) = (T : Int) := by rw [hT]; push_cast; rfl
        have hti : (x.text.size : Int) = (T : Int) := by rw [hts, hT]
        have hr0 : ¬ (1 + (q : Int) + 2) = 0 := by omega
        have hD0 : (0 : Int) ≤ (D : Int) := by omega
        have hD1 : (D : Int) ≤ 2000 := by omega
        have hDw : IntKind.i64.wrap (D : Int) = (D : Int) := by rw [IntKind.wrap_i64]; omega
        have hTw : IntKind.i64.wrap (T : Int) = (T : Int) := by rw [IntKind.wrap_i64]; omega
        have hqw : IntKind.i64.wrap (1 + (q : Int) + 2) = 1 + (q : Int) + 2 := by rw [IntKind.wrap_i64]; omega
        have hd := bdr wr
        have hck := fun (W : World) (hW : Below wr.drew.heap.size wr.drew W) => check_ses x A c m W hvd (adrs_of_own ((hS.later hd).later hW).row rfl) (own_capA hS.row) (cell_later hW (cell_later hd (cell_later hb Hm.out)))
        unfold sesVal at hck
        rw [hst, hlr] at hck
        have hmk := fun (W : World) (hW : Below wr.drew.heap.size wr.drew W) => And.intro (cell_later hW (cell_later hd s0)) (And.intro (cell_later hW (cell_later hd s1)) (And.intro (cell_later hW (cell_later hd s2)) (And.intro (cell_later hW (cell_later hd s3)) (And.intro (cell_later hW (cell_later hd s4)) (And.intro (cell_later hW (cell_later hd s5)) hW)))))
        have Hmk := Lib.hid hmk
        have Hck := Lib.hid hck
        have Hdd := Lib.hid hd
        have hKK := Hmk.out wr.drew (Below.refl _ _)
        clear hmk hck hx0 hS hb hvd hd hst hlr hts hT hD hw
        go_upto_region 15 with fail
        go_region_held3 (fun W => W.cell? ⟨sb, 0, none⟩ = some (.int .i64 4) ∧ W.cell? ⟨sb, 1, none⟩ = some (.string x.frm.loc) ∧ W.cell? ⟨sb, 2, none⟩ = some (.string x.frm.dom) ∧ W.cell? ⟨sb, 3, none⟩ = some (.slice A x.rcp.length c) ∧ W.cell? ⟨sb, 4, none⟩ = some (.string x.text) ∧ W.cell? ⟨sb, 5, none⟩ = some (.bool true) ∧ Below wr.drew.heap.size wr.drew W) (first | (with_reducible exact hKK))
          (first | (go_at_call 13; (with_reducible refine (Hck.out _ ?_).mono ?_); exact (k6 (by with_reducible first | exact hS | assumption)); rintro e w9 ⟨rfl, hb9⟩; have hKK := Hmk.out w9 (btr (k6 (by with_reducible first | exact hS | assumption)) hb9)))
        all_goals (
          have Hbf := Lib.hid (btr Hb.out (btr Hdd.out (k6 hKK)))
          clear hKK
          go_wp2_with fail
          go_ret
          exact ⟨rfl, Hbf.out⟩)
end Go.Proofs.YtokeblpdaomagaaDoor
