/- lmtp.Line at a line that ends no letter. -/
import Derived.Test.YtokeblpdaomagaaDoorLmCheck
import Derived.Test.YtokeblpdaomagaaDoorLmBody
namespace Go.Proofs.YtokeblpdaomagaaDoor
open Go.RowKit
set_option linter.unusedVariables false

theorem own_capA {W : World} {base e size n c : Nat} {A : Option Addr} {xs : List Value} (h : W.ownsRow base e size (.slice A n c) n xs) : n ≤ c := by
  rcases h.2 with ⟨h1, h2⟩ | ⟨g, cap, cur, h1, _, _, h4, _⟩
  · omega
  · obtain ⟨_, _, rfl⟩ := Value.slice.inj h1; exact h4
theorem own_nilA {W : World} {base e size n c : Nat} {A : Option Addr} {xs : List Value} (h : W.ownsRow base e size (.slice A n c) n xs) (hA : A = none) : c = 0 := by
  subst hA
  rcases h.2 with ⟨h1, h2⟩ | ⟨g, cap, cur, h1, _⟩
  · exact (Value.slice.inj h1).2.2
  · exact absurd (Value.slice.inj h1).1 (by simp)
theorem below_mv {w W W' : World} {s : Nat} (hb : Below w.heap.size w W) (hm : Mv s W W') (hs : w.heap.size ≤ s) : Below w.heap.size w W' :=
  ⟨hm.os.trans hb.os, hm.tape.trans hb.tape, hm.output.trans hb.output, Nat.le_trans hb.size hm.size, fun k hk => (hm.block k (Nat.lt_of_lt_of_le hk hb.size) (by omega)).trans (hb.block k hk)⟩
/-- What Line answers: the session, the code, the letters. -/
def LineOk (w : World) (x : Ses) (k : Int) (L : Value) (e : Ending) (w' : World) : Prop :=
  ∃ A c, e = .returned (.tuple #[sesVal x (.slice A x.rcp.length c), .int .i64 k, L, .int .i64 0]) ∧ w'.ownsRow 0 28 2 (.slice A x.rcp.length c) x.rcp.length (adrCells x.rcp) ∧ Below w.heap.size w w'
def zeroC : List Value := [.int .i64 0, .string ⟨#[]⟩, .string ⟨#[]⟩, .slice none 0 0, .string ⟨#[]⟩, .bool false]
def put6 (W : World) (r : Nat) (x : Ses) (v : Value) : World :=
  (((((W.setCell ⟨r, 0, none⟩ (.int .i64 x.step)).setCell ⟨r, 1, none⟩ (.string x.frm.loc)).setCell ⟨r, 2, none⟩ (.string x.frm.dom)).setCell ⟨r, 3, none⟩ v).setCell ⟨r, 4, none⟩ (.string x.text)).setCell ⟨r, 5, none⟩ (.bool x.large)
theorem put6_bk {W : World} {r : Nat} {t : TypeId} {a0 a1 a2 a3 a4 a5 : Value} (h : Bk W r [a0, a1, a2, a3, a4, a5] t) (x : Ses) (v : Value) : Bk (put6 W r x v) r (sesCells x v) t :=
  (((((h.set 0 _).set 1 _).set 2 _).set 3 _).set 4 _).set 5 _
theorem put6_below {w W : World} {r : Nat} (hb : Below w.heap.size w W) (hr : w.heap.size ≤ r) (x : Ses) (v : Value) : Below w.heap.size w (put6 W r x v) :=
  (((((hb.setCell (p := ⟨r, 0, none⟩) hr _).setCell (p := ⟨r, 1, none⟩) hr _).setCell (p := ⟨r, 2, none⟩) hr _).setCell (p := ⟨r, 3, none⟩) hr _).setCell (p := ⟨r, 4, none⟩) hr _).setCell (p := ⟨r, 5, none⟩) hr _
theorem put6_row {W : World} {r : Nat} {a0 a1 a2 a3 a4 a5 : Value} (h : Bk W r [a0, a1, a2, a3, a4, a5] 33) (x : Ses) (v u : Value) {B n : Nat} {xs : List Value} (ho : W.ownsRow B 28 2 u n xs) : (put6 W r x v).ownsRow B 28 2 u n xs :=
  own_set (own_set (own_set (own_set (own_set (own_set ho h (by decide) 0 _) (h.set 0 _) (by decide) 1 _) ((h.set 0 _).set 1 _) (by decide) 2 _) (((h.set 0 _).set 1 _).set 2 _) (by decide) 3 _) ((((h.set 0 _).set 1 _).set 2 _).set 3 _) (by decide) 4 _) (((((h.set 0 _).set 1 _).set 2 _).set 3 _).set 4 _) (by decide) 5 _
theorem line_fin {w W : World} {r : Nat} {x : Ses} {k : Int} {A : Option Addr} {cx : Nat} (hb : Below w.heap.size w W) (hr : w.heap.size ≤ r) (hR : Bk W r zeroC 33) (ho : W.ownsRow 0 28 2 (.slice A x.rcp.length cx) x.rcp.length (adrCells x.rcp)) :
    LineOk w x k (.slice none 0 0) (.returned (.tuple #[sesVal x (.slice A x.rcp.length cx), .int .i64 k, .slice none 0 0, .int .i64 0])) (put6 W r x (.slice A x.rcp.length cx)) :=
  ⟨A, cx, rfl, put6_row hR x _ _ ho, put6_below hb hr x _⟩
set_option maxRecDepth 100000 in
set_option maxHeartbeats 8000000 in
theorem line_calls (x : Ses) (A : Option Addr) (c : Nat) (line : ByteArray) (known : List ByteArray) (K : Option Addr) (kc : Nat) (m : Int) (w : World) (hv : VldS x) (hA : AdrsAt w A x.rcp) (hn : A = none → c = 0) (hc : x.rcp.length ≤ c) (hl : line.size ≤ 2000) (hK : StrsAt w K known) (hkn : known.length ≤ 1000) (hm : w.cell? ⟨0, 0, none⟩ = some (.int .i64 m)) (hd : x.step = 4 → line ≠ dotS1) :
    Calls Tryd.prog 10 #[sesVal x (.slice A x.rcp.length c), .slice K known.length kc, .string line] w fun e w' => LineOk w (lineR x known line).1 (lineR x known line).2.1 (.slice none 0 0) e w' := by
  have h5 := hv.t5
  have ht2 := hv.t2
  have hs0 := hv.s0
  let XC : List Value := [.int .i64 x.step, .string x.frm.loc, .string x.frm.dom, .slice A x.rcp.length c, .string x.text, .bool x.large]
  have hb1 : Below w.heap.size w (w.alloc (.cells XC.toArray 33)) := bal (Below.refl _ w) _
  have hb2 : Below w.heap.size w ((w.alloc (.cells XC.toArray 33)).alloc (.cells zeroC.toArray 33)) := bal hb1 _
  have hX : Bk ((w.alloc (.cells XC.toArray 33)).alloc (.cells zeroC.toArray 33)) w.heap.size XC 33 := (Bk.new w XC _).alloc _
  have hR := Bk.new (w.alloc (.cells XC.toArray 33)) zeroC 33
  have hs1 : (w.alloc (.cells XC.toArray 33)).heap.size = w.heap.size + 1 := by simp
  rw [hs1] at hR
  have hck := check_ses x A c m _ hv (hA.later hb2) hc (cell_later hb2 hm)
  have HA := Lib.hid (hA.later hb2)
  have HK0 := Lib.hid hK
  have Hm0 := Lib.hid hm
  have HX := Lib.hid hX
  have HR := Lib.hid hR
  have Hb := Lib.hid hb2
  clear hX hR hb1 hb2 hs1 hA hK hm
  unfold sesVal at hck ⊢
  have Hck := Lib.hid hck
  clear hck
  have Hv := Lib.hid hv
  have Hd := Lib.hid hd
  clear hv hd
  simp only [XC, zeroC] at HA HX HR Hb Hck
  clear XC
  go_enter Tryd.func10, Tryd.ntmps10
  go_wp2_with fail
  generalize (w.alloc (.cells #[.int .i64 x.step, .string x.frm.loc, .string x.frm.dom, .slice A x.rcp.length c, .string x.text, .bool x.large] 33)).alloc (.cells #[.int .i64 0, .string ⟨#[]⟩, .string ⟨#[]⟩, .slice none 0 0, .string ⟨#[]⟩, .bool false] 33) = w1 at *
  refine Hck.out.mono ?_
  rintro e w2 ⟨rfl, hb2⟩
  have Hb2 := Lib.hid (btr Hb.out hb2)
  have HA2 := Lib.hid (HA.out.later hb2)
  have HX2 := Lib.hid (HX.out.later hb2)
  have HR2 := Lib.hid (HR.out.later hb2)
  clear hb2 Hb HA HX HR Hck
  have x0 := HX2.out.cell 0 _ rfl
  have x1 := HX2.out.cell 1 _ rfl
  have x2 := HX2.out.cell 2 _ rfl
  have x3 := HX2.out.cell 3 _ rfl
  have x4 := HX2.out.cell 4 _ rfl
  have x5 := HX2.out.cell 5 _ rfl
  have hal : Below w2.heap.size w2 (w2.alloc (.cells #[.int .i64 x.step, .string x.frm.loc, .string x.frm.dom, .slice A x.rcp.length c, .string x.text, .bool x.large] 54)) := bal (Below.refl _ w2) _
  have hS := Bk.new w2 [.int .i64 x.step, .string x.frm.loc, .string x.frm.dom, .slice A x.rcp.length c, .string x.text, .bool x.large] 54
  have HS := Lib.hid hS
  have Hal := Lib.hid hal
  have hr2 := HR2.out.lt
  have hw2 := Hb2.out.size
  clear hal hS
  go_upto_region 5 with fail
  generalize w2.alloc (.cells #[.int .i64 x.step, .string x.frm.loc, .string x.frm.dom, .slice A x.rcp.length c, .string x.text, .bool x.large] 54) = w3 at *
  have Hb3 := Lib.hid (btr Hb2.out Hal.out)
  have HA3 := Lib.hid (HA2.out.later Hal.out)
  have HX3 := Lib.hid (HX2.out.later Hal.out)
  have HR3 := Lib.hid (HR2.out.later Hal.out)
  clear x0 x1 x2 x3 x4 x5 Hal Hb2 HA2 HX2 HR2
  have x3 := HX3.out.cell 3 _ rfl
  go_wp2_with fail
  refine (cloneA_calls A c x.rcp w3 HA3.out hn (by omega)).mono ?_
  rintro e w4 ⟨A2, c2, rfl, hown, hb4⟩
  have HX4 := Lib.hid (HX3.out.later hb4)
  have HR4 := Lib.hid (HR3.out.later hb4)
  have HS4 := Lib.hid (HS.out.later hb4)
  have Hb4 := Lib.hid (btr Hb3.out hb4)
  have Hown := Lib.hid hown
  have hsl := HS.out.lt
  clear hown x3 HX3 HR3 HS Hb3 HA3 hb4
  have s3 := HS4.out.cell 3 _ rfl
  have fz := HS4.out.frozen 3
  have hX5 := HX4.out.other (c := w2.heap.size) (by omega) 3 (.slice A2 x.rcp.length c2)
  have hR5 := HR4.out.other (c := w2.heap.size) (by omega) 3 (.slice A2 x.rcp.length c2)
  have hS5 := HS4.out.set 3 (.slice A2 x.rcp.length c2)
  have ho5 := row_base (Nat.zero_le _) (own_set Hown.out HS4.out (by decide) 3 (.slice A2 x.rcp.length c2))
  have hb5 : Below w.heap.size w (w4.setCell ⟨w2.heap.size, 3, none⟩ (.slice A2 x.rcp.length c2)) := Hb4.out.setCell (p := ⟨w2.heap.size, 3, none⟩) hw2 _
  have hSB5 : SB (w4.setCell ⟨w2.heap.size, 3, none⟩ (.slice A2 x.rcp.length c2)) w2.heap.size x := ⟨A2, c2, hS5, ho5⟩
  have HX5 := Lib.hid hX5
  have HR5 := Lib.hid hR5
  have HS5 := Lib.hid hS5
  have Ho5 := Lib.hid ho5
  have Hb5 := Lib.hid hb5
  have HSB5 := Lib.hid hSB5
  have HK5 := Lib.hid (HK0.out.later hb5)
  have Hm5 := Lib.hid (cell_later hb5 Hm0.out)
  clear hX5 hR5 hS5 ho5 hb5 hSB5 HK0 Hm0
  go_upto_region 6 with fail
  generalize w4.setCell ⟨w2.heap.size, 3, none⟩ (.slice A2 x.rcp.length c2) = w5 at *
  clear s3 fz HX4 HR4 HS4 Hb4 Hown hsl
  have x0 := HX5.out.cell 0 _ rfl
  have HR5 := Lib.hid (show Bk w5 (w.heap.size + 1) zeroC 33 from HR5.out)
  have HS5 := Lib.hid (show Bk w5 w2.heap.size (sesCells x (.slice A2 x.rcp.length c2)) 54 from HS5.out)
  by_cases h5s : x.step = 5
  · have hr : lineR x known line = (x, 0, false) := by unfold lineR; rw [if_pos h5s]
    have Hr := Lib.hid hr
    have e5 : (x.step == 5) = true := by rw [h5s]; rfl
    clear hr h5s
    have s0 := (HS5.out).cell 0 _ rfl
    have s1 := (HS5.out).cell 1 _ rfl
    have s2 := (HS5.out).cell 2 _ rfl
    have s3 := (HS5.out).cell 3 _ rfl
    have s4 := (HS5.out).cell 4 _ rfl
    have s5 := (HS5.out).cell 5 _ rfl
    have r0 := (HR5.out).cell 0 _ rfl
    have r1 := (HR5.out).cell 1 _ rfl
    have r2 := (HR5.out).cell 2 _ rfl
    have r3 := (HR5.out).cell 3 _ rfl
    have r4 := (HR5.out).cell 4 _ rfl
    have r5 := (HR5.out).cell 5 _ rfl
    have g0 := (HR5.out).frozen 0
    have g1 := (HR5.out).frozen 1
    have g2 := (HR5.out).frozen 2
    have g3 := (HR5.out).frozen 3
    have g4 := (HR5.out).frozen 4
    have g5 := (HR5.out).frozen 5
    have hfin := line_fin (k := 0) Hb5.out (Nat.le_succ _) (HR5.out) (Ho5.out)
    have hZ := put6_bk (HR5.out) x (.slice A2 x.rcp.length c2)
    unfold put6 at hfin hZ
    have z0 := hZ.cell 0 _ rfl
    have z1 := hZ.cell 1 _ rfl
    have z2 := hZ.cell 2 _ rfl
    have z3 := hZ.cell 3 _ rfl
    have z4 := hZ.cell 4 _ rfl
    have z5 := hZ.cell 5 _ rfl
    have Hfin := Lib.hid hfin
    clear hfin hZ
    go_wp2_with fail
    exact bodyPost_ret (v := .tuple #[sesVal x (.slice A2 x.rcp.length c2), .int .i64 0, .slice none 0 0, .int .i64 0]) (by simp [results, sesVal, Tryd.results10, go_sem, z0, z1, z2, z3, z4, z5]) rfl (by rw [Hr.out]; exact Hfin.out)
  · have e5 : (x.step == 5) = false := by rw [beq_eq_false_iff_ne]; exact h5s
    by_cases h4 : x.step = 4
    · have hne := Hd.out h4
      have hr : lineR x known line = (bodyR x line, 0, false) := by unfold lineR; rw [if_neg h5s, if_neg (by rw [h4]; decide), if_pos hne]
      have Hr := Lib.hid hr
      have e4 : (x.step != 4) = false := by rw [h4]; rfl
      have en : (line.toList == [46]) = false := by
        have h := beq_no hne
        have e : dotS1.toList = [46] := by rw [toList_bs]; rfl
        rw [e] at h
        exact h
      have hbd := body_calls w2.heap.size x line w5 HSB5.out hl ht2
      generalize bodyR x line = x' at *
      have Hbd := Lib.hid hbd
      clear hr h4 h5s hne hbd
      go_wp2_with fail
      refine Hbd.out.mono ?_
      rintro e w6 ⟨rfl, ⟨A6, c6, hS6, ho6⟩, hm6⟩
      have HS6 := Lib.hid hS6
      have Ho6 := Lib.hid ho6
      have HR6 := Lib.hid (HR5.out.mv hm6 (by omega))
      have Hb6 := Lib.hid (below_mv Hb5.out hm6 hw2)
      clear hS6 ho6 hm6 x0
      have s0 := (HS6.out).cell 0 _ rfl
      have s1 := (HS6.out).cell 1 _ rfl
      have s2 := (HS6.out).cell 2 _ rfl
      have s3 := (HS6.out).cell 3 _ rfl
      have s4 := (HS6.out).cell 4 _ rfl
      have s5 := (HS6.out).cell 5 _ rfl
      have r0 := (HR6.out).cell 0 _ rfl
      have r1 := (HR6.out).cell 1 _ rfl
      have r2 := (HR6.out).cell 2 _ rfl
      have r3 := (HR6.out).cell 3 _ rfl
      have r4 := (HR6.out).cell 4 _ rfl
      have r5 := (HR6.out).cell 5 _ rfl
      have g0 := (HR6.out).frozen 0
      have g1 := (HR6.out).frozen 1
      have g2 := (HR6.out).frozen 2
      have g3 := (HR6.out).frozen 3
      have g4 := (HR6.out).frozen 4
      have g5 := (HR6.out).frozen 5
      have hfin := line_fin (k := 0) Hb6.out (Nat.le_succ _) (HR6.out) (Ho6.out)
      have hZ := put6_bk (HR6.out) x' (.slice A6 x'.rcp.length c6)
      unfold put6 at hfin hZ
      have z0 := hZ.cell 0 _ rfl
      have z1 := hZ.cell 1 _ rfl
      have z2 := hZ.cell 2 _ rfl
      have z3 := hZ.cell 3 _ rfl
      have z4 := hZ.cell 4 _ rfl
      have z5 := hZ.cell 5 _ rfl
      have Hfin := Lib.hid hfin
      clear hfin hZ
      go_wp2_with fail
      exact bodyPost_ret (v := .tuple #[sesVal x' (.slice A6 x'.rcp.length c6), .int .i64 0, .slice none 0 0, .int .i64 0]) (by simp [results, sesVal, Tryd.results10, go_sem, z0, z1, z2, z3, z4, z5]) rfl (by rw [Hr.out]; exact Hfin.out)
    · have hr : lineR x known line = ((cmdR x line known).2, (cmdR x line known).1, false) := by unfold lineR; rw [if_neg h5s, if_pos h4]
      have e4 : (x.step != 4) = true := by rw [bne, beq_eq_false_iff_ne.2 h4]; rfl
      have hbd := cmd_calls w2.heap.size x line known K kc m w5 HSB5.out h5 hl HK5.out hkn Hm5.out
      have Hr := Lib.hid hr
      clear hr
      generalize cmdR x line known = r at *
      obtain ⟨code, x'⟩ := r
      have Hbd := Lib.hid hbd
      clear h4 h5s hbd
      go_wp2_with fail
      refine Hbd.out.mono ?_
      rintro e w6 ⟨rfl, ⟨A6, c6, hS6, ho6⟩, hm6⟩
      have HS6 := Lib.hid hS6
      have Ho6 := Lib.hid ho6
      have HR6 := Lib.hid (HR5.out.mv hm6 (by omega))
      have Hb6 := Lib.hid (below_mv Hb5.out hm6 hw2)
      clear hS6 ho6 hm6 x0
      have s0 := (HS6.out).cell 0 _ rfl
      have s1 := (HS6.out).cell 1 _ rfl
      have s2 := (HS6.out).cell 2 _ rfl
      have s3 := (HS6.out).cell 3 _ rfl
      have s4 := (HS6.out).cell 4 _ rfl
      have s5 := (HS6.out).cell 5 _ rfl
      have r0 := (HR6.out).cell 0 _ rfl
      have r1 := (HR6.out).cell 1 _ rfl
      have r2 := (HR6.out).cell 2 _ rfl
      have r3 := (HR6.out).cell 3 _ rfl
      have r4 := (HR6.out).cell 4 _ rfl
      have r5 := (HR6.out).cell 5 _ rfl
      have g0 := (HR6.out).frozen 0
      have g1 := (HR6.out).frozen 1
      have g2 := (HR6.out).frozen 2
      have g3 := (HR6.out).frozen 3
      have g4 := (HR6.out).frozen 4
      have g5 := (HR6.out).frozen 5
      have hfin := line_fin (k := code) Hb6.out (Nat.le_succ _) (HR6.out) (Ho6.out)
      have hZ := put6_bk (HR6.out) x' (.slice A6 x'.rcp.length c6)
      unfold put6 at hfin hZ
      have z0 := hZ.cell 0 _ rfl
      have z1 := hZ.cell 1 _ rfl
      have z2 := hZ.cell 2 _ rfl
      have z3 := hZ.cell 3 _ rfl
      have z4 := hZ.cell 4 _ rfl
      have z5 := hZ.cell 5 _ rfl
      have Hfin := Lib.hid hfin
      clear hfin hZ
      go_wp2_with fail
      exact bodyPost_ret (v := .tuple #[sesVal x' (.slice A6 x'.rcp.length c6), .int .i64 code, .slice none 0 0, .int .i64 0]) (by simp [results, sesVal, Tryd.results10, go_sem, z0, z1, z2, z3, z4, z5]) rfl (by rw [Hr.out]; exact Hfin.out)
/-- A session that lies in a block. -/
structure SesAt (W : World) (b : Nat) (x : Ses) (A : Option Addr) (c : Nat) : Prop where
  bk : Bk W b (sesCells x (.slice A x.rcp.length c)) 33
  row : W.ownsRow 0 28 2 (.slice A x.rcp.length c) x.rcp.length (adrCells x.rcp)
theorem SesAt.later {W W' : World} {b : Nat} {x : Ses} {A : Option Addr} {c : Nat} (h : SesAt W b x A c) (hb : Below W.heap.size W W') : SesAt W' b x A c := ⟨h.bk.later hb, row_later hb h.row⟩
theorem SesAt.put {W : World} {b : Nat} {x y : Ses} {A A2 : Option Addr} {c c2 : Nat} (h : SesAt W b x A c) (ho : W.ownsRow 0 28 2 (.slice A2 y.rcp.length c2) y.rcp.length (adrCells y.rcp)) : SesAt (put6 W b y (.slice A2 y.rcp.length c2)) b y A2 c2 :=
  ⟨put6_bk h.bk y _, put6_row h.bk y _ _ ho⟩
/-- What comes of a line at a session that lies in memory. -/
theorem line_at (x : Ses) (A : Option Addr) (c : Nat) (line : ByteArray) (known : List ByteArray) (K : Option Addr) (kc : Nat) (m : Int) (w : World) (b : Nat) (h : SesAt w b x A c) (hv : VldS x) (hl : line.size ≤ 2000) (hK : StrsAt w K known) (hkn : known.length ≤ 1000) (hm : w.cell? ⟨0, 0, none⟩ = some (.int .i64 m)) (hd : x.step = 4 → line ≠ dotS1) :
    Calls Tryd.prog 10 #[sesVal x (.slice A x.rcp.length c), .slice K known.length kc, .string line] w fun e w' => LineOk w (lineR x known line).1 (lineR x known line).2.1 (.slice none 0 0) e w' :=
  line_calls x A c line known K kc m w hv (adrs_of_own h.row rfl) (own_nilA h.row) (own_capA h.row) hl hK hkn hm hd
end Go.Proofs.YtokeblpdaomagaaDoor
