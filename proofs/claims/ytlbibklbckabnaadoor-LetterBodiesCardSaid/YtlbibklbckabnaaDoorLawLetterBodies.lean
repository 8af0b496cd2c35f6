/- What stands in the body does not change the fields: for every list of lines and every two bodies. -/
import Derived.Test.YtlbibklbckabnaaDoorLetLaw2
import Derived.Deep.RegionHeld3
namespace Go.Proofs.YtlbibklbckabnaaDoor
open Go.RowKit
set_option linter.unusedVariables false

theorem showR_small {F : List Fld} {body : List UInt8} (h : (showL F body).length ≤ 2000) : showR F body = (mkS (showL F body), 0) := by
  unfold showR; rw [if_neg (by omega)]
theorem row_set {W : World} {A : Option Addr} {F : List Fld} (h : kLin.Row W A F) {b : Nat} (hn : F ≠ [] → ∀ g off, A = some ⟨g, off, none⟩ → g ≠ b) (j : Nat) (u : Value) : kLin.Row (W.setCell ⟨b, j, none⟩ u) A F := by
  rcases h with h | ⟨g, off, e, h⟩
  · exact .inl h
  · by_cases h0 : F = []
    · exact .inl h0
    refine .inr ⟨g, off, e, fun k hk => ?_⟩
    obtain ⟨cs, hkk, hcs⟩ := h k hk
    obtain ⟨rfl, h1, h2⟩ := kLin_cells hkk
    refine ⟨_, ⟨_, _, rfl, ⟨rfl, h1⟩, _, _, rfl, ⟨rfl, h2⟩, rfl⟩, fun i v hv => ?_⟩
    rw [World.cell?_setCell_other _ _ _ _ (by intro e2; injection e2 with e3 _ _; exact hn h0 g off e (by first | exact e3 | exact e3.symm))]
    exact hcs i v hv
theorem row_lt {W : World} {A : Option Addr} {F : List Fld} (h : kLin.Row W A F) (h0 : F ≠ []) {g off : Nat} (e : A = some ⟨g, off, none⟩) : g < W.heap.size := by
  obtain ⟨g2, off2, e2, c0, _⟩ := row_cells h (List.getElem?_eq_getElem (List.length_pos_iff.2 h0))
  rw [e] at e2
  injection e2 with e3
  injection e3 with e4 _ _
  subst e4
  exact World.block_lt_of_cell? W _ c0
/-- What stands behind the two readings: the boxes of the three messages, and their fields. -/
structure KB (w W : World) (bm bx bY : Nat) (AM AX AY : Option Addr) (cM cX cY : Nat) (F : List Fld) (sM sX sY : ByteArray) : Prop where
  m : MB W bm (.slice AM F.length cM) sM
  x : MB W bx (.slice AX F.length cX) sX
  y : MB W bY (.slice AY F.length cY) sY
  rm : kLin.Row W AM F
  rx : kLin.Row W AX F
  ry : kLin.Row W AY F
  nm : F ≠ [] → ∀ g off, AM = some ⟨g, off, none⟩ → g ≠ bx ∧ g ≠ bY
  nx : F ≠ [] → ∀ g off, AX = some ⟨g, off, none⟩ → g ≠ bx ∧ g ≠ bY
  ny : F ≠ [] → ∀ g off, AY = some ⟨g, off, none⟩ → g ≠ bx ∧ g ≠ bY
  b : Below w.heap.size w W
  o : w.heap.size ≤ bx ∧ w.heap.size ≤ bY ∧ bm ≠ bx ∧ bm ≠ bY ∧ bx ≠ bY
section
variable {w W W' : World} {bm bx bY : Nat} {AM AX AY : Option Addr} {cM cX cY : Nat} {F : List Fld} {sM sX sY : ByteArray}
theorem KB.later (h : KB w W bm bx bY AM AX AY cM cX cY F sM sX sY) (hb : Below W.heap.size W W') : KB w W' bm bx bY AM AX AY cM cX cY F sM sX sY :=
  ⟨h.m.below hb h.m.lt, h.x.below hb h.x.lt, h.y.below hb h.y.lt, h.rm.later hb, h.rx.later hb, h.ry.later hb, h.nm, h.nx, h.ny, h.b.trans (hb.mono h.b.size), h.o⟩
theorem KB.setX (h : KB w W bm bx bY AM AX AY cM cX cY F sM sX sY) (s : ByteArray) : KB w (W.setCell ⟨bx, 1, none⟩ (.string s)) bm bx bY AM AX AY cM cX cY F sM s sY :=
  ⟨h.m.other (fun e => h.o.2.2.1 e.symm) _ _, h.x.set1 s, h.y.other h.o.2.2.2.2 _ _, row_set h.rm (fun h0 g off e => (h.nm h0 g off e).1) _ _, row_set h.rx (fun h0 g off e => (h.nx h0 g off e).1) _ _, row_set h.ry (fun h0 g off e => (h.ny h0 g off e).1) _ _, h.nm, h.nx, h.ny, h.b.setCell (p := ⟨bx, 1, none⟩) h.o.1 _, h.o⟩
theorem KB.setY (h : KB w W bm bx bY AM AX AY cM cX cY F sM sX sY) (s : ByteArray) : KB w (W.setCell ⟨bY, 1, none⟩ (.string s)) bm bx bY AM AX AY cM cX cY F sM sX s :=
  ⟨h.m.other (fun e => h.o.2.2.2.1 e.symm) _ _, h.x.other (fun e => h.o.2.2.2.2 e.symm) _ _, h.y.set1 s, row_set h.rm (fun h0 g off e => (h.nm h0 g off e).2) _ _, row_set h.rx (fun h0 g off e => (h.nx h0 g off e).2) _ _, row_set h.ry (fun h0 g off e => (h.ny h0 g off e).2) _ _, h.nm, h.nx, h.ny, h.b.setCell (p := ⟨bY, 1, none⟩) h.o.2.1 _, h.o⟩
end
set_option maxRecDepth 100000 in
set_option maxHeartbeats 8000000 in
theorem letterBodies_walk (x : List Fld) (A : Option Addr) (c : Nat) (a b : ByteArray) (m : Int) (w : World) (hx : x.length ≤ 9223372036854775807) (hA : kLin.Row w A x) (has : a.size ≤ 9223372036854775807) (hbs : b.size ≤ 9223372036854775807) (hm : w.cell? ⟨0, 0, none⟩ = some (.int .i64 m)) :
    Calls Tryd.prog 12 #[.slice A x.length c, .string a, .string b] w fun e w' => e = .returned (.bool true) ∧ Below w.heap.size w w' := by
  go_enter Tryd.func12, Tryd.ntmps12
  go_wp2_with fail
  refine (message_calls x A c ⟨#[]⟩ w hx hA (by decide)).mono ?_
  rintro e w1 ⟨v, rfl, hrow, hb1⟩
  have hmay := fieldsOf_may x
  have hn := fieldsOf_len x
  have hfl := fieldsOf_fldsL x
  obtain ⟨A2, c2, rfl, hlin⟩ := ownsRow_lin hrow rfl (fieldsOf_small x)
  have hsm := fieldsOf_small x
  rw [cutS_all ⟨#[]⟩ 200 (by decide)]
  obtain ⟨s, hs0⟩ : ∃ s : ByteArray, s = ⟨#[]⟩ := ⟨_, rfl⟩
  have hbz : s.size ≤ 200 := by rw [hs0]; decide
  have hbs0 : bs s = [] := by rw [hs0]; rfl
  rw [← hs0]
  clear hs0
  generalize fieldsOf x = F at *
  have hlen : (showL F (bs s)).length ≤ 600 := by rw [showL_len, bs_len]; omega
  have hlen2 : 2 ≤ (showL F (bs s)).length := by rw [showL_len]; omega
  have hmay2 := hmay
  have Hsm := Lib.hid hsm
  have Hmay := Lib.hid hmay
  have Hn := Lib.hid hn
  have hm1 := cell_later hb1 hm
  have hbz1 := hb1.size
  have Hbs0 := Lib.hid hbs0
  clear hbs0
  clear hrow hA hmay hmay2 hsm hn hfl hm
  have hb2 : Below w1.heap.size w1 (w1.alloc (.cells #[.slice A2 F.length c2, .string s] 45)) := (Below.refl _ w1).alloc (Nat.le_refl _) _
  have hM2 : MB (w1.alloc (.cells #[.slice A2 F.length c2, .string s] 45)) w1.heap.size (.slice A2 F.length c2) s := World.alloc_heap_new w1 _
  have hlin2 := hlin.later hb2
  have hm2 := cell_later hb2 hm1
  have hbw2 := hb1.trans (hb2.mono hbz1)
  have hsz2 := hbw2.size
  have hsh := show_msg F A2 c2 s m _ hlin2 Hmay.out (by have := Hn.out; omega) (by omega) hm2
  rw [showR_small (by omega)] at hsh
  have HSh := Lib.hid hsh
  clear hb1 hb2 hm1 hlin hsh
  go_wp2_with fail
  generalize w1.alloc (.cells #[.slice A2 F.length c2, .string s] 45) = w2 at *
  refine HSh.out.mono ?_
  rintro e w3 ⟨rfl, hb3⟩
  have hM3 := hM2.below hb3 hM2.lt
  have hlin3 := hlin2.later hb3
  have hm3 := cell_later hb3 hm2
  have hbw3 := hbw2.trans (hb3.mono hsz2)
  have hsz3 := hbw3.size
  have hps := mkS_size (showL F (bs s))
  have hlt := hM3.lt
  have hpz : (mkS (showL F (bs s))).size ≤ 600 := by rw [hps]; omega
  have hpar : ∀ q : ByteArray, q.size ≤ 100 → (mkS (showL F (bs s)) ++ q).size ≤ 700 ∧ parseL ((mkS (showL F (bs s)) ++ q).size + 1) 0 [] (bs (mkS (showL F (bs s)) ++ q)) = .ok F (bs q) := by
    intro q hq
    have hz : (mkS (showL F (bs s)) ++ q).size = (mkS (showL F (bs s))).size + q.size := ByteArray.size_append
    have he : bs (mkS (showL F (bs s)) ++ q) = showL F (bs q) := by
      rw [bs_append, bs_mkS, Hbs0.out]
      unfold showL
      simp
    refine ⟨by omega, ?_⟩
    rw [he]
    refine parse_showL F _ (bs q) Hmay.out (by have := Hn.out; omega) ?_
    have h1 := showL_ge F (bs s)
    rw [hz, hps]; omega
  have HPar := Lib.hid hpar
  have hca := cutS_size a 100
  have hcb := cutS_size b 100
  have HCa := fun W => Lib.hid (cut_calls a 100 (by decide) has W)
  have HCb := fun W => Lib.hid (cut_calls b 100 (by decide) hbs W)
  rw [show (100 : Int).toNat = 100 from rfl] at HCa HCb
  generalize cutS a 100 = ca at *
  generalize cutS b 100 = cb at *
  clear hM2 hlin2 hm2 hbw2 hb3 HSh hpar hps hlen hlen2
  generalize mkS (showL F (bs s)) = p at *
  obtain ⟨ha1, ha2⟩ := HPar.out ca hca
  have hpa := parse_calls (p ++ ca) m w3 (by omega) hm3 _ ha2
  have HPa := Lib.hid hpa
  clear hpa ha1 ha2
  go_wp2_with fail
  refine (HCa _).out.mono ?_
  rintro e w' ⟨rfl, rfl⟩
  go_wp2_with fail
  refine HPa.out.mono ?_
  rintro e w4 ⟨hb4, v4, rfl, hrow4⟩
  obtain ⟨A4, c4, rfl, hlin4⟩ := ownsRow_lin hrow4 rfl Hsm.out
  rw [mkS_bs]
  have hM4 := hM3.below hb4 hM3.lt
  have hlinM4 := hlin3.later hb4
  have hm4 := cell_later hb4 hm3
  have hbw4 := hbw3.trans (hb4.mono hsz3)
  have hsz4 := hbw4.size
  have hltM := hM4.lt
  have hb5 : Below w4.heap.size w4 (w4.alloc (.cells #[.slice A4 F.length c4, .string ca] 45)) := (Below.refl _ w4).alloc (Nat.le_refl _) _
  have hM5 := hM4.below hb5 hM4.lt
  have hX5 : MB (w4.alloc (.cells #[.slice A4 F.length c4, .string ca] 45)) w4.heap.size (.slice A4 F.length c4) ca := World.alloc_heap_new w4 _
  have hlinM5 := hlinM4.later hb5
  have hlinX5 := hlin4.later hb5
  have hm5 := cell_later hb5 hm4
  have hbw5 := hbw4.trans (hb5.mono hsz4)
  have hsz5 := hbw5.size
  have hs45 : w4.heap.size < (w4.alloc (.cells #[.slice A4 F.length c4, .string ca] 45)).heap.size := by simp
  obtain ⟨hc1, hc2⟩ := HPar.out cb hcb
  have hpb := parse_calls (p ++ cb) m _ (by omega) hm5 _ hc2
  have HPb := Lib.hid hpb
  have HlinX := Lib.hid hlin4
  have HlinM := Lib.hid hlinM4
  clear HPa hM3 hlin3 hm3 hbw3 hb4 hrow4 hM4 hlinM4 hlin4 hm4 hbw4 hb5 hpb hc1 hc2
  go_wp2_with fail
  generalize w4.alloc (.cells #[.slice A4 F.length c4, .string ca] 45) = w5 at *
  refine (HCb _).out.mono ?_
  rintro e w' ⟨rfl, rfl⟩
  go_wp2_with fail
  refine HPb.out.mono ?_
  rintro e w6 ⟨hb6, v6, rfl, hrow6⟩
  obtain ⟨A6, c6, rfl, hlin6⟩ := ownsRow_lin hrow6 rfl Hsm.out
  rw [mkS_bs]
  have hs56 := hb6.size
  have hb7 : Below w6.heap.size w6 (w6.alloc (.cells #[.slice A6 F.length c6, .string cb] 45)) := (Below.refl _ w6).alloc (Nat.le_refl _) _
  have hY7 : MB (w6.alloc (.cells #[.slice A6 F.length c6, .string cb] 45)) w6.heap.size (.slice A6 F.length c6) cb := World.alloc_heap_new w6 _
  have hbw6 := hbw5.trans (hb6.mono hsz5)
  have hK : KB w (w6.alloc (.cells #[.slice A6 F.length c6, .string cb] 45)) w1.heap.size w4.heap.size w6.heap.size A2 A4 A6 c2 c4 c6 F s ca cb := by
    refine ⟨(hM5.below hb6 hM5.lt).below hb7 (hM5.below hb6 hM5.lt).lt, (hX5.below hb6 hX5.lt).below hb7 (hX5.below hb6 hX5.lt).lt, hY7, (hlinM5.later hb6).later hb7, (hlinX5.later hb6).later hb7, hlin6.later hb7, ?_, ?_, ?_, hbw6.trans (hb7.mono hbw6.size), by omega⟩
    · intro h0 g off e
      have := row_lt HlinM.out h0 e
      omega
    · intro h0 g off e
      have := row_lt HlinX.out h0 e
      omega
    · intro h0 g off e
      have := row_lt hlin6 h0 e
      have h2 := own_base' hrow6 g (by rw [e]; rfl)
      omega
  have HK := Lib.hid hK
  have hx1 := hK.x.c1
  have hy1 := hK.y.c1
  have hKd : KB w (w6.alloc (.cells #[.slice A6 F.length c6, .string cb] 45)).drew w1.heap.size w4.heap.size w6.heap.size A2 A4 A6 c2 c4 c6 F s ca cb := hK.later ⟨rfl, rfl, rfl, Nat.le_refl _, fun _ _ => rfl⟩
  have HKd := Lib.hid hKd
  clear HPb hM5 hX5 hlinM5 hlinX5 hm5 hbw5 hb6 hrow6 hlin6 hb7 hY7 hbw6 hK HlinX HlinM hKd
  go_wp2_with fail
  generalize w6.alloc (.cells #[.slice A6 F.length c6, .string cb] 45) = w7 at *
  go_region_held3 (fun w' => w'.cell? ⟨w4.heap.size, 1, none⟩ = some (.string ca) ∧ w'.cell? ⟨w6.heap.size, 1, none⟩ = some (.string cb) ∧ KB w w' w1.heap.size w4.heap.size w6.heap.size A2 A4 A6 c2 c4 c6 F s ca cb) (first | assumption | exact ⟨hx1, hy1, HKd.out⟩)
    (first
      | (go_at_call_of 26 (Value.string a); (with_reducible refine (HCa _).out.mono ?_); rintro e w' ⟨rfl, rfl⟩)
      | (go_at_call_of 26 (Value.string b); (with_reducible refine (HCb _).out.mono ?_); rintro e w' ⟨rfl, rfl⟩))
  have hx0 := HK.out.x.c0
  have hy0 := HK.out.y.c0
  have fx := HK.out.x.f1
  have fy := HK.out.y.f1
  have hm0 := HK.out.m.c0
  have hm1 := HK.out.m.c1
  have hne1 : w4.heap.size ≠ w6.heap.size := by omega
  have hne2 : w6.heap.size ≠ w4.heap.size := by omega
  have hK8 : KB w ((w7.setCell ⟨w4.heap.size, 1, none⟩ (.string ⟨#[]⟩)).setCell ⟨w6.heap.size, 1, none⟩ (.string ⟨#[]⟩)).drew w1.heap.size w4.heap.size w6.heap.size A2 A4 A6 c2 c4 c6 F s ⟨#[]⟩ ⟨#[]⟩ := ((HK.out.setX ⟨#[]⟩).setY ⟨#[]⟩).later ⟨rfl, rfl, rfl, Nat.le_refl _, fun _ _ => rfl⟩
  have HK8 := Lib.hid hK8
  clear hK8
  have hs0 : s = ⟨#[]⟩ := bs_inj Hbs0.out
  subst hs0
  go_wp2_with fail
  generalize ((w7.setCell ⟨w4.heap.size, 1, none⟩ (.string ⟨#[]⟩)).setCell ⟨w6.heap.size, 1, none⟩ (.string ⟨#[]⟩)).drew = w8 at *
  refine (same_msg F A4 A6 c4 c6 ⟨#[]⟩ w8 HK8.out.rx HK8.out.ry (by have := Hn.out; omega)).mono ?_
  rintro e w9 ⟨rfl, hb9⟩
  have hK9 := HK8.out.later hb9
  have x0 := hK9.x.c0
  have x1 := hK9.x.c1
  have y0 := hK9.m.c0
  have y1 := hK9.m.c1
  have HK9 := Lib.hid hK9
  clear hK9 hb9 hx0 hy0 hx1 hy1 fx fy hm0 hm1 HK8 HKd HK
  go_wp2_with fail
  refine (same_msg F A4 A2 c4 c2 ⟨#[]⟩ w9 HK9.out.rx HK9.out.rm (by have := Hn.out; omega)).mono ?_
  rintro e w10 ⟨rfl, hb10⟩
  have Hb10 := Lib.hid (HK9.out.b.trans (hb10.mono HK9.out.b.size))
  clear hb10
  go_wp2
  go_ret
  exact ⟨rfl, Hb10.out⟩
end Go.Proofs.YtlbibklbckabnaaDoor
