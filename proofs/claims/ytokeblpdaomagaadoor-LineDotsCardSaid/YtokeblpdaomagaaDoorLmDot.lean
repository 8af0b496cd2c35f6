/- lmtp.Line at a dot: the letters are handed over. -/
import Derived.Test.YtokeblpdaomagaaDoorLmLine
import Derived.WalkArith
namespace Go.Proofs.YtokeblpdaomagaaDoor
open Go.RowKit
set_option linter.unusedVariables false

/-- The letters of a session, one for each to whom they go. -/
def letCells (x : Ses) (l : List Adr) : List Value := l.flatMap fun a => [.string x.frm.loc, .string x.frm.dom, .string a.loc, .string a.dom, .string x.text]
theorem letCells_append (x : Ses) (l : List Adr) (a : Adr) : letCells x (l ++ [a]) = letCells x l ++ [.string x.frm.loc, .string x.frm.dom, .string a.loc, .string a.dom, .string x.text] := by
  simp [letCells]
theorem info_letr : (Tryd.prog.info? 47).map (fun i => (i.zero, i.size, i.bytes)) = some (some (.agg #[.string ⟨#[]⟩, .string ⟨#[]⟩, .string ⟨#[]⟩, .string ⟨#[]⟩, .string ⟨#[]⟩]), 5, 80) := by kernel_rfl
theorem put6_rowL {W : World} {r : Nat} {a0 a1 a2 a3 a4 a5 : Value} (h : Bk W r [a0, a1, a2, a3, a4, a5] 33) (x : Ses) (v u : Value) {B n : Nat} {xs : List Value} (ho : W.ownsRow B 47 5 u n xs) : (put6 W r x v).ownsRow B 47 5 u n xs :=
  own_set (own_set (own_set (own_set (own_set (own_set ho h (by decide) 0 _) (h.set 0 _) (by decide) 1 _) ((h.set 0 _).set 1 _) (by decide) 2 _) (((h.set 0 _).set 1 _).set 2 _) (by decide) 3 _) ((((h.set 0 _).set 1 _).set 2 _).set 3 _) (by decide) 4 _) (((((h.set 0 _).set 1 _).set 2 _).set 3 _).set 4 _) (by decide) 5 _
/-- What Line answers at a dot. -/
def DotOk (w : World) (x : Ses) (e : Ending) (w' : World) : Prop :=
  ∃ v, e = .returned (.tuple #[sesVal (readyS 1) (.slice none 0 0), .int .i64 0, v, .int .i64 0]) ∧ w'.ownsRow w.heap.size 47 5 v x.rcp.length (letCells x x.rcp) ∧ Below w.heap.size w w'
set_option maxRecDepth 100000 in
set_option maxHeartbeats 8000000 in
theorem dot_calls (x : Ses) (A : Option Addr) (c : Nat) (known : List ByteArray) (K : Option Addr) (kc : Nat) (m : Int) (w : World) (hv : VldS x) (hA : AdrsAt w A x.rcp) (hn : A = none → c = 0) (hc : x.rcp.length ≤ c) (hK : StrsAt w K known) (hkn : known.length ≤ 1000) (hm : w.cell? ⟨0, 0, none⟩ = some (.int .i64 m)) (h4 : x.step = 4) :
    Calls Tryd.prog 10 #[sesVal x (.slice A x.rcp.length c), .slice K known.length kc, .string ⟨#[46]⟩] w (DotOk w x) := by
  have H4 := Lib.hid h4
  clear h4
  have h5 := hv.t5
  have ht2 := hv.t2
  have hs0 := hv.s0
  have hv5 := hv.t5
  let XC : List Value := [.int .i64 x.step, .string x.frm.loc, .string x.frm.dom, .slice A x.rcp.length c, .string x.text, .bool x.large]
  have hb1 : Below w.heap.size w (w.alloc (.cells XC.toArray 33)) := bal (Below.refl _ w) _
  have hb2 : Below w.heap.size w ((w.alloc (.cells XC.toArray 33)).alloc (.cells zeroC.toArray 33)) := bal hb1 _
  have hX : Bk ((w.alloc (.cells XC.toArray 33)).alloc (.cells zeroC.toArray 33)) w.heap.size XC 33 := (Bk.new w XC _).alloc _
  have hR := Bk.new (w.alloc (.cells XC.toArray 33)) zeroC 33
  have hs1 : (w.alloc (.cells XC.toArray 33)).heap.size = w.heap.size + 1 := by simp
  rw [hs1] at hR
  have hck := check_ses x A c m _ hv (hA.later hb2) hc (cell_later hb2 hm)
  have HA := Lib.hid (hA.later hb2)
  have HA0 := Lib.hid hA
  have HK0 := Lib.hid hK
  have Hm0 := Lib.hid hm
  have HX := Lib.hid hX
  have HR := Lib.hid hR
  have Hb := Lib.hid hb2
  clear hX hR hb1 hb2 hs1 hA hK hm
  unfold sesVal at hck ⊢
  have Hck := Lib.hid hck
  clear hck
  have Hv := Lib.hid hv
  clear hv
  simp only [XC, zeroC] at HA HX HR Hb Hck
  clear XC
  go_enter Tryd.func10, Tryd.ntmps10
  go_wp2_with fail
  generalize (w.alloc (.cells #[.int .i64 x.step, .string x.frm.loc, .string x.frm.dom, .slice A x.rcp.length c, .string x.text, .bool x.large] 33)).alloc (.cells #[.int .i64 0, .string ⟨#[]⟩, .string ⟨#[]⟩, .slice none 0 0, .string ⟨#[]⟩, .bool false] 33) = w1 at *
  refine Hck.out.mono ?_
  rintro e w2 ⟨rfl, hb2⟩
  have Hb2 := Lib.hid (btr Hb.out hb2)
  have HA2 := Lib.hid (HA.out.later hb2)
  have HX2 := Lib.hid (HX.out.later hb2)
  have HR2 := Lib.hid (HR.out.later hb2)
  clear hb2 Hb HA HX HR Hck
  have x0 := HX2.out.cell 0 _ rfl
  have x1 := HX2.out.cell 1 _ rfl
  have x2 := HX2.out.cell 2 _ rfl
  have x3 := HX2.out.cell 3 _ rfl
  have x4 := HX2.out.cell 4 _ rfl
  have x5 := HX2.out.cell 5 _ rfl
  have hal : Below w2.heap.size w2 (w2.alloc (.cells #[.int .i64 x.step, .string x.frm.loc, .string x.frm.dom, .slice A x.rcp.length c, .string x.text, .bool x.large] 54)) := bal (Below.refl _ w2) _
  have hS := Bk.new w2 [.int .i64 x.step, .string x.frm.loc, .string x.frm.dom, .slice A x.rcp.length c, .string x.text, .bool x.large] 54
  have HS := Lib.hid hS
  have Hal := Lib.hid hal
  have hr2 := HR2.out.lt
  have hw2 := Hb2.out.size
  clear hal hS
  go_upto_region 5 with fail
  generalize w2.alloc (.cells #[.int .i64 x.step, .string x.frm.loc, .string x.frm.dom, .slice A x.rcp.length c, .string x.text, .bool x.large] 54) = w3 at *
  have Hb3 := Lib.hid (btr Hb2.out Hal.out)
  have HA3 := Lib.hid (HA2.out.later Hal.out)
  have HX3 := Lib.hid (HX2.out.later Hal.out)
  have HR3 := Lib.hid (HR2.out.later Hal.out)
  clear x0 x1 x2 x3 x4 x5 Hal Hb2 HA2 HX2 HR2
  have x3 := HX3.out.cell 3 _ rfl
  go_wp2_with fail
  refine (cloneA_calls A c x.rcp w3 HA3.out hn (by omega)).mono ?_
  rintro e w4 ⟨A2, c2, rfl, hown, hb4⟩
  have HX4 := Lib.hid (HX3.out.later hb4)
  have HR4 := Lib.hid (HR3.out.later hb4)
  have HS4 := Lib.hid (HS.out.later hb4)
  have Hb4 := Lib.hid (btr Hb3.out hb4)
  have Hown := Lib.hid hown
  have hsl := HS.out.lt
  clear hown x3 HX3 HR3 HS Hb3 HA3 hb4
  have s3 := HS4.out.cell 3 _ rfl
  have fz := HS4.out.frozen 3
  have hX5 := HX4.out.other (c := w2.heap.size) (by omega) 3 (.slice A2 x.rcp.length c2)
  have hR5 := HR4.out.other (c := w2.heap.size) (by omega) 3 (.slice A2 x.rcp.length c2)
  have hS5 := HS4.out.set 3 (.slice A2 x.rcp.length c2)
  have ho5 := row_base (Nat.zero_le _) (own_set Hown.out HS4.out (by decide) 3 (.slice A2 x.rcp.length c2))
  have hb5 : Below w.heap.size w (w4.setCell ⟨w2.heap.size, 3, none⟩ (.slice A2 x.rcp.length c2)) := Hb4.out.setCell (p := ⟨w2.heap.size, 3, none⟩) hw2 _
  have hSB5 : SB (w4.setCell ⟨w2.heap.size, 3, none⟩ (.slice A2 x.rcp.length c2)) w2.heap.size x := ⟨A2, c2, hS5, ho5⟩
  have HX5 := Lib.hid hX5
  have HR5 := Lib.hid hR5
  have HS5 := Lib.hid hS5
  have Ho5 := Lib.hid ho5
  have Hb5 := Lib.hid hb5
  have HSB5 := Lib.hid hSB5
  have HK5 := Lib.hid (HK0.out.later hb5)
  have Hm5 := Lib.hid (cell_later hb5 Hm0.out)
  clear hX5 hR5 hS5 ho5 hb5 hSB5 HK0 Hm0
  go_upto_region 6 with fail
  generalize w4.setCell ⟨w2.heap.size, 3, none⟩ (.slice A2 x.rcp.length c2) = w5 at *
  clear s3 fz HX4 HR4 HS4 Hb4 Hown hsl
  have x0 := HX5.out.cell 0 _ rfl
  have HR5 := Lib.hid (show Bk w5 (w.heap.size + 1) zeroC 33 from HR5.out)
  have HS5 := Lib.hid (show Bk w5 w2.heap.size (sesCells x (.slice A2 x.rcp.length c2)) 54 from HS5.out)
  obtain ⟨i0, hi, hz0, hz1, hz2⟩ := info_parts info_letr
  have e5 : (x.step == 5) = false := by rw [H4.out]; rfl
  have e4 : (x.step != 4) = false := by rw [H4.out]; rfl
  have hlX := HX5.out.lt
  have hlR := HR5.out.lt
  have hw5 := Hb5.out.size
  have HA5 := Lib.hid (HA0.out.later Hb5.out)
  have t5 := hv5
  clear HA0 HK5 Hm5 HSB5 Ho5 HS5 x0
  have x0 := HX5.out.cell 0 _ rfl
  have x3 := HX5.out.cell 3 _ rfl
  go_wp2_with fail
  clear x0 x3
  go_loopw [13, 66] (fun v i wr => ∃ k : Nat, k ≤ x.rcp.length ∧ i = .int .i64 k ∧ Hid (wr.ownsRow w5.heap.size 47 5 v k (letCells x (x.rcp.take k))) ∧ Hid (Below w5.heap.size w5 wr)) (fun _ i _ => x.rcp.length - (intOf i).toNat)
  case atStart => exact ⟨0, Nat.zero_le _, rfl, Lib.hid (World.ownsRow_nil _ _ _ _), Lib.hid (Below.refl _ _)⟩
  case round =>
    obtain ⟨k, hk, rfl, Hrow, Hb6⟩ := hrel
    by_cases hlt : k < x.rcp.length
    · have hga : x.rcp[k]? = some x.rcp[k] := by simp [hlt]
      obtain ⟨g, off, hA1, c0, c1⟩ := (HA5.out.later Hb6.out) k x.rcp[k] hga
      have hnew : letCells x (x.rcp.take (k + 1)) = letCells x (x.rcp.take k) ++ [.string x.frm.loc, .string x.frm.dom, .string x.rcp[k].loc, .string x.rcp[k].dom, .string x.text] := by
        rw [List.take_succ_eq_append_getElem hlt, letCells_append]
      generalize x.rcp[k] = a at *
      have Hnew := Lib.hid hnew
      have hk0 : (0 : Int) ≤ (k : Int) := by omega
      have hkn : (k : Int) < (x.rcp.length : Int) := by omega
      have hal : Below wr.heap.size wr (wr.alloc (.cells #[.string a.loc, .string a.dom] 28)) := bal (Below.refl _ wr) _
      have hP := Bk.new wr [.string a.loc, .string a.dom] 28
      have HP := Lib.hid hP
      have Hb7 := Lib.hid (btr Hb6.out hal)
      have Hrow7 := Lib.hid (Hrow.out.alloc (.cells #[.string a.loc, .string a.dom] 28))
      clear hP hal hga hnew
      subst hA1
      go_upto_region 18 with fail
      generalize wr.alloc (.cells #[.string a.loc, .string a.dom] 28) = w7 at *
      clear c0 c1
      have hX7 := HX5.out.later Hb7.out
      have x1 := hX7.cell 1 _ rfl
      have x2 := hX7.cell 2 _ rfl
      have x4 := hX7.cell 4 _ rfl
      have p0 := HP.out.cell 0 _ rfl
      have p1 := HP.out.cell 1 _ rfl
      have hnw := new_cells w7 [.string x.frm.loc, .string x.frm.dom, .string a.loc, .string a.dom, .string x.text] 47
      have hs2 := Hb7.out.size
      have hrow7 := Hrow7.out
      have hrl : k + 1 ≤ 5 := by omega
      clear hX7
      go_wp2_with (at_builtin; refine wpList_append_own _ rfl _ _ 34 rfl w5.heap.size 47 i0 (.agg #[.string ⟨#[]⟩, .string ⟨#[]⟩, .string ⟨#[]⟩, .string ⟨#[]⟩, .string ⟨#[]⟩]) 5 80 Tryd.underlying34 hi hz0 hz1 hz2 rfl (by decide) _ _ _ rfl (hrow7.alloc _) ⟨w7.heap.size, 0, none⟩ 1 1 [.string x.frm.loc, .string x.frm.dom, .string a.loc, .string a.dom, .string x.text] rfl rfl hnw (by simp [Value.oneCell']) (by unfold maxLen; omega) (by omega) (by simp; omega) ?_; intro v' w8 hown' hgrow _; have Hb8 := Lib.hid (below_append Hb7.out hs2 hrow7 hgrow); have Hown := Lib.hid hown'; clear hgrow hnw hown' hrow7)
      go_roundw
      case rel => exact ⟨k + 1, by omega, by go_num, Lib.hid (by rw [Hnew.out]; exact Hown.out), Hb8⟩
      case measure => simp [intOf]; omega
    · obtain rfl : k = x.rcp.length := by omega
      clear hlt hk
      have hR6 := HR5.out.later Hb6.out
      have r0 := hR6.cell 0 _ rfl
      have r1 := hR6.cell 1 _ rfl
      have r2 := hR6.cell 2 _ rfl
      have r3 := hR6.cell 3 _ rfl
      have r4 := hR6.cell 4 _ rfl
      have r5 := hR6.cell 5 _ rfl
      have g0 := hR6.frozen 0
      have g1 := hR6.frozen 1
      have g2 := hR6.frozen 2
      have g3 := hR6.frozen 3
      have g4 := hR6.frozen 4
      have g5 := hR6.frozen 5
      have hrow := Hrow.out
      rw [List.take_length] at hrow
      have hro := row_base hw5 (put6_rowL hR6 (readyS 1) (.slice none 0 0) _ hrow)
      have hbf := put6_below (btr Hb5.out Hb6.out) (Nat.le_succ _) (readyS 1) (.slice none 0 0)
      have hZ := put6_bk hR6 (readyS 1) (.slice none 0 0)
      dsimp only [put6, readyS, zeroA, sesCells] at hro hbf hZ
      have z0 := hZ.cell 0 _ rfl
      have z1 := hZ.cell 1 _ rfl
      have z2 := hZ.cell 2 _ rfl
      have z3 := hZ.cell 3 _ rfl
      have z4 := hZ.cell 4 _ rfl
      have z5 := hZ.cell 5 _ rfl
      have Hro := Lib.hid hro
      have Hbf := Lib.hid hbf
      clear hro hbf hZ hrow hR6 Hrow
      go_wp2_with fail
      exact bodyPost_ret (v := .tuple #[sesVal (readyS 1) (.slice none 0 0), .int .i64 0, _, .int .i64 0]) (by simp [results, sesVal, readyS, zeroA, Tryd.results10, go_sem, z0, z1, z2, z3, z4, z5]) rfl ⟨_, rfl, Hro.out, Hbf.out⟩
/-- The same at a session that lies in memory. -/
theorem dot_at (x : Ses) (A : Option Addr) (c : Nat) (known : List ByteArray) (K : Option Addr) (kc : Nat) (m : Int) (w : World) (b : Nat) (h : SesAt w b x A c) (hv : VldS x) (hK : StrsAt w K known) (hkn : known.length ≤ 1000) (hm : w.cell? ⟨0, 0, none⟩ = some (.int .i64 m)) (h4 : x.step = 4) :
    Calls Tryd.prog 10 #[sesVal x (.slice A x.rcp.length c), .slice K known.length kc, .string ⟨#[46]⟩] w (DotOk w x) :=
  dot_calls x A c known K kc m w hv (adrs_of_own h.row rfl) (own_nilA h.row) (own_capA h.row) hK hkn hm h4
end Go.Proofs.YtokeblpdaomagaaDoor
