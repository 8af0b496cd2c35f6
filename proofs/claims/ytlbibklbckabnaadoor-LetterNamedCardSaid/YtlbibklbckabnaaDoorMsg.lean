/- The helper Message of the statements: what it returns. -/
import Derived.Test.YtlbibklbckabnaaDoorValue
import Derived.Test.YtlbibklbckabnaaDoorCut
import Derived.Test.YtlbibklbckabnaaDoorLin
import Derived.Test.YtlbibklbckabnaaDoorKeep
import Derived.Deep.RegionLaw
import Derived.Deep.AppendLies
import Derived.Deep.DrawnRows
import Derived.Outline
namespace Go.Proofs.YtlbibklbckabnaaDoor
open Go.RowKit
attribute [local go_sem ↓] Go.wp_at_zero Go.wp_at_succ

/-- The fields that raw lines make. -/
def fieldOf (p : Fld) : Fld := ⟨mkS (wordL (bs p.name)), mkS (valueL (bs p.value))⟩
def fieldsOf (l : List Fld) : List Fld := (l.take 6).map fieldOf
theorem info_fld : (Tryd.prog.info? 48).map (fun i => (i.zero, i.size, i.bytes)) = some (some (.agg #[.string ByteArray.empty, .string ByteArray.empty]), 2, 32) := by kernel_rfl
theorem heap_setAt {w : World} {b : Nat} {cs : Array Value} {t : TypeId} {f : Nat × Nat} (h : w.heap[b]? = some (.cells cs t f)) (j : Nat) (v : Value) :
    (w.setCell ⟨b, j, none⟩ v).heap[b]? = some (.cells (cs.setIfInBounds j v) t f) := by
  obtain ⟨hlt, hk⟩ := Array.getElem?_eq_some_iff.1 h
  show (w.heap.modify b _)[b]? = _
  rw [Array.getElem?_eq_getElem (by rw [Array.size_modify]; exact hlt), Array.getElem_modify_self, hk]
  rfl
/-- A message in a box. -/
def MB (W : World) (b : Nat) (v : Value) (body : ByteArray) : Prop := W.heap[b]? = some (.cells #[v, .string body] 45 (0, 0))
theorem MB.c0 {W : World} {b : Nat} {v : Value} {s : ByteArray} (h : MB W b v s) : W.cell? ⟨b, 0, none⟩ = some v := by simp [World.cell?, show W.heap[b]? = _ from h]
theorem MB.c1 {W : World} {b : Nat} {v : Value} {s : ByteArray} (h : MB W b v s) : W.cell? ⟨b, 1, none⟩ = some (.string s) := by simp [World.cell?, show W.heap[b]? = _ from h]
theorem MB.f0 {W : World} {b : Nat} {v : Value} {s : ByteArray} (h : MB W b v s) : W.frozen? ⟨b, 0, none⟩ = false := by simp [World.frozen?, show W.heap[b]? = _ from h]
theorem MB.f1 {W : World} {b : Nat} {v : Value} {s : ByteArray} (h : MB W b v s) : W.frozen? ⟨b, 1, none⟩ = false := by simp [World.frozen?, show W.heap[b]? = _ from h]
theorem MB.lt {W : World} {b : Nat} {v : Value} {s : ByteArray} (h : MB W b v s) : b < W.heap.size := (Array.getElem?_eq_some_iff.1 h).1
theorem MB.below {W W' : World} {b B : Nat} {v : Value} {s : ByteArray} (h : MB W b v s) (hb : Below B W W') (hB : b < B) : MB W' b v s := (hb.block b hB).trans h
theorem MB.set0 {W : World} {b : Nat} {v : Value} {s : ByteArray} (h : MB W b v s) (v' : Value) : MB (W.setCell ⟨b, 0, none⟩ v') b v' s := heap_setAt h 0 _
theorem MB.set1 {W : World} {b : Nat} {v : Value} {s : ByteArray} (h : MB W b v s) (s' : ByteArray) : MB (W.setCell ⟨b, 1, none⟩ (.string s')) b v s' := heap_setAt h 1 _
theorem MB.other {W : World} {b c : Nat} {v : Value} {s : ByteArray} (h : MB W b v s) (hne : c ≠ b) (j : Nat) (u : Value) : MB (W.setCell ⟨c, j, none⟩ u) b v s :=
  (Below.heap_setCell _ _ _ b (fun e => hne e.symm)).trans h
theorem ownsRow_laterE {w w' : World} {base e size n : Nat} {v : Value} {xs : List Value} (hb : Below w.heap.size w w') (h : w.ownsRow base e size v n xs) : w'.ownsRow base e size v n xs := by
  refine ⟨h.1, ?_⟩
  rcases h.2 with hn | ⟨g, cap, cur, rfl, h1, h2, rest⟩
  · exact .inl hn
  · exact .inr ⟨g, cap, cur, rfl, h1, (hb.block g (Array.getElem?_eq_some_iff.1 h2).1).trans h2, rest⟩

theorem ownsRow_base {w : World} {base base2 e size n : Nat} {v : Value} {xs : List Value} (hb : base2 ≤ base) (h : w.ownsRow base e size v n xs) : w.ownsRow base2 e size v n xs := by
  refine ⟨h.1, ?_⟩
  rcases h.2 with hn | ⟨g, cap, cur, rfl, h1, rest⟩
  · exact .inl hn
  · exact .inr ⟨g, cap, cur, rfl, by omega, rest⟩
theorem own_slice {w : World} {base e size n : Nat} {v : Value} {xs : List Value} (h : w.ownsRow base e size v n xs) : ∃ A c, v = .slice A n c := by
  rcases h.2 with ⟨rfl, rfl⟩ | ⟨g, cap, cur, rfl, _⟩
  · exact ⟨_, _, rfl⟩
  · exact ⟨_, _, rfl⟩
/-- What stands while a message is made: its boxes, its fields, the line that comes. -/
structure KM (w0 W : World) (b : Nat) (v : Value) (fs : List Fld) (lb lo : Nat) (z : Fld) : Prop where
  r : MB W (b + 1) v ⟨#[]⟩
  m : MB W b (.slice none 0 0) ⟨#[]⟩
  row : W.ownsRow (b + 2) 48 2 v fs.length (fldCells fs)
  c0 : W.cell? ⟨lb, lo, none⟩ = some (.string z.name)
  c1 : W.cell? ⟨lb, lo + 1, none⟩ = some (.string z.value)
  bel : Below b w0 W
  size : b + 2 ≤ W.heap.size
theorem KM.later {w0 W W' : World} {b : Nat} {v : Value} {fs : List Fld} {lb lo : Nat} {z : Fld} (h : KM w0 W b v fs lb lo z) (hb : Below W.heap.size W W') : KM w0 W' b v fs lb lo z :=
  ⟨h.r.below hb h.r.lt, h.m.below hb h.m.lt, ownsRow_laterE hb h.row, cell_later hb h.c0, cell_later hb h.c1, h.bel.trans (hb.mono (by have := h.size; omega)), Nat.le_trans h.size hb.size⟩
theorem word_keepM (s : ByteArray) {w0 W : World} {b : Nat} {v : Value} {fs : List Fld} {lb lo : Nat} {z : Fld} (hs : s.size ≤ 9223372036854775807) (h : KM w0 W b v fs lb lo z) :
    Calls Tryd.prog 20 #[.string s] W fun e w' => e = .returned (.string (mkS (wordL (bs s)))) ∧ KM w0 w' b v fs lb lo z :=
  (word_calls s hs W).mono fun _ _ ⟨he, hb⟩ => ⟨he, h.later hb⟩
theorem value_keepM (s : ByteArray) {w0 W : World} {b : Nat} {v : Value} {fs : List Fld} {lb lo : Nat} {z : Fld} (hs : s.size ≤ 9223372036854775807) (h : KM w0 W b v fs lb lo z) :
    Calls Tryd.prog 35 #[.string s] W fun e w' => e = .returned (.string (mkS (valueL (bs s)))) ∧ KM w0 w' b v fs lb lo z :=
  (value_calls s hs W).mono fun _ _ ⟨he, hb⟩ => ⟨he, h.later hb⟩

theorem grown_msg {w0 W W' : World} {b : Nat} {v : Value} {fs : List Fld} {lb lo : Nat} {z : Fld} {o : Obj} (h : KM w0 W b v fs lb lo z) (hg : (W.alloc o).grownBy W' v.ownBlock) :
    MB W' (b + 1) v ⟨#[]⟩ ∧ MB W' b (.slice none 0 0) ⟨#[]⟩ ∧ Below b w0 W' ∧ b + 2 ≤ W'.heap.size := by
  have hs := h.size
  have h1 : Below (b + 2) W W' := ((Below.refl _ W).alloc hs o).grown hg (by simp; omega) (fun k e => own_base' h.row k e)
  exact ⟨h.r.below h1 (by omega), h.m.below h1 (by omega), h.bel.trans (h1.mono (by omega)), Nat.le_trans hs h1.size⟩
set_option maxRecDepth 100000 in
set_option maxHeartbeats 8000000 in
theorem message_calls (x : List Fld) (A : Option Addr) (c : Nat) (body : ByteArray) (w : World) (_hx : x.length ≤ 9223372036854775807) (hA : kLin.Row w A x) (hbs : body.size ≤ 9223372036854775807) :
    Calls Tryd.prog 21 #[.slice A x.length c, .string body] w fun e w' => ∃ v, e = .returned (.agg #[v, .string (cutS body 200)]) ∧ w'.ownsRow w.heap.size 48 2 v (fieldsOf x).length (fldCells (fieldsOf x)) ∧ Below w.heap.size w w' := by
  obtain ⟨i0, hi, hz0, hz1, hz2⟩ := info_parts info_fld
  go_enter Tryd.func21, Tryd.ntmps21
  go_wp2_with fail
  have hw0 : ∃ W0 : World, W0 = (w.alloc (.cells #[.slice none 0 0, .string ⟨#[]⟩] 45)).alloc (.cells #[.slice none 0 0, .string ⟨#[]⟩] 45) := ⟨_, rfl⟩
  obtain ⟨W0, hW0⟩ := hw0
  have hm0 : MB W0 w.heap.size (.slice none 0 0) ⟨#[]⟩ := by
    rw [hW0]
    exact (((Below.refl _ (w.alloc (.cells #[.slice none 0 0, .string ⟨#[]⟩] 45))).alloc (Nat.le_refl _) _).block w.heap.size (by simp)).trans (World.alloc_heap_new w _)
  have hr0 : MB W0 (w.heap.size + 1) (.slice none 0 0) ⟨#[]⟩ := by
    rw [hW0]
    have h := World.alloc_heap_new (w.alloc (.cells #[.slice none 0 0, .string ⟨#[]⟩] 45)) (.cells #[.slice none 0 0, .string ⟨#[]⟩] 45)
    have e : (w.alloc (.cells #[.slice none 0 0, .string ⟨#[]⟩] 45)).heap.size = w.heap.size + 1 := by simp
    rw [e] at h
    exact h
  have hb0 : Below w.heap.size w W0 := by
    rw [hW0]
    exact ((Below.refl _ w).alloc (Nat.le_refl _) _).alloc (by simp) _
  have hz0' : w.heap.size + 2 ≤ W0.heap.size := by rw [hW0]; simp
  rw [← hW0]
  clear hW0
  go_loopw [6] (fun i wr => ∃ (k : Nat) (v : Value), k ≤ x.length ∧ k ≤ 6 ∧ i = .int .i64 k ∧ MB wr (w.heap.size + 1) v ⟨#[]⟩ ∧ MB wr w.heap.size (.slice none 0 0) ⟨#[]⟩ ∧ wr.ownsRow (w.heap.size + 2) 48 2 v ((x.take k).map fieldOf).length (fldCells ((x.take k).map fieldOf)) ∧ Below w.heap.size w wr ∧ w.heap.size + 2 ≤ wr.heap.size) (fun i _ => 6 - (intOf i).toNat)
  case atStart => exact ⟨0, _, Nat.zero_le _, Nat.zero_le _, rfl, hr0, hm0, World.ownsRow_nil _ _ _ _, hb0, hz0'⟩
  case round =>
    obtain ⟨k, v, hk, hk6, rfl, hr, hm, hrow, hb, hsz⟩ := hrel
    clear hr0 hm0 hb0 hz0'
    by_cases hlt : k < x.length ∧ k < 6
    · obtain ⟨hlt1, hlt2⟩ := hlt
      obtain ⟨lb, lo, rfl, cs, hkk, hcs⟩ := (hA.later (w' := wr) ⟨hb.os, hb.tape, hb.output, hb.size, hb.block⟩).get k hlt1
      obtain ⟨rfl, q1, q2⟩ := kLin_cells hkk
      unfold maxLen at q1 q2
      have c0 := hcs 0 _ rfl
      have c1 := hcs 1 _ rfl
      rw [show lo + (k * kLin.sz + 0) = lo + k * 2 from rfl] at c0
      rw [show lo + (k * kLin.sz + 1) = lo + k * 2 + 1 from rfl] at c1
      have hnew : (x.take (k + 1)).map fieldOf = (x.take k).map fieldOf ++ [fieldOf x[k]] := by
        rw [List.take_succ_eq_append_getElem hlt1, List.map_append]; rfl
      have Hnew := Lib.hid hnew
      have hfl : ((x.take k).map fieldOf).length ≤ 6 := by rw [List.length_map, List.length_take]; omega
      clear hcs hkk hnew
      generalize x[k] = z at *
      generalize (x.take k).map fieldOf = fs at *
      have C := Lib.hid (show KM w wr.drew w.heap.size v fs lb (lo + k * 2) z from ⟨hr, hm, hrow.drew, c0, c1, hb.drew, hsz⟩)
      have d0 := hr.c0
      have hk0 : (0 : Int) ≤ (k : Int) := by omega
      have hkx : (k : Int) < (x.length : Int) := by omega
      go_wp2_with fail
      go_region_law (first
        | (refine step_append_lies _ (by rfl) _ _ _ (by rfl) (w.heap.size + 2) 48 i0 _ 2 32 Tryd.underlying43 hi hz0 hz1 hz2 rfl (by omega) v fs.length (fldCells fs) (by rfl) (C3.out.row.alloc _) ⟨w10.heap.size, 0, none⟩ 1 1 [.string (mkS (wordL (bs z.name))), .string (mkS (valueL (bs z.value)))] (by rfl) (by rfl) (World.news_of_block (cs := #[.string (mkS (wordL (bs z.name))), .string (mkS (valueL (bs z.value)))]) (t := 48) (fr := (0, 0)) (heap_alloc_new w10 _)) (by simp [Value.oneCell']) (by omega) (by unfold maxLen; omega) (by omega) (by have := C3.out.size; simp; omega) _ (by rfl) ?_; intro g cap w11 hown1 hgrow hat hglt; have s3 := grown_msg C3.out hgrow; have s4 := s3.1.c0; have s5 := s3.1.f0)
        | (go_simp; go_at_call 20; (with_reducible refine (word_keepM z.name (by omega) C.out).mono ?_); rintro e w9 ⟨rfl, hK⟩; have C2 := Lib.hid hK; have e0 := hK.r.c0; have e1 := hK.c1; clear hK)
        | (go_simp; go_at_call 35; (with_reducible refine (value_keepM z.value (by omega) C2.out).mono ?_); rintro e w10 ⟨rfl, hK⟩; have C3 := Lib.hid hK; have f0 := hK.r.c0; have zz : w.heap.size + 1 < w10.heap.size := (by have := hK.size; omega); have zn : w10.heap.size ≠ w.heap.size + 1 := (by omega); clear hK))
      all_goals
        clear C C2 C3 e0 e1 f0 zz zn d0 c0 c1
        have S3 := Lib.hid s3
        have Row1 := Lib.hid hown1
        clear s3 hown1 hgrow hat
        go_wp2
        go_roundw
        case rel => exact ⟨k + 1, _, by omega, by omega, by go_num, S3.out.1.set0 _, S3.out.2.1.other (by omega) 0 _, by rw [Hnew.out, List.length_append, fldCells_append]; exact ownsRow_setCell_below Row1.out (by show w.heap.size + 1 < w.heap.size + 2; omega) _, S3.out.2.2.1.setCell (p := ⟨w.heap.size + 1, 0, none⟩) (Nat.le_succ _) _, by simpa using S3.out.2.2.2⟩
        case measure => simp [intOf]; omega
    · have hend : (x.take k).map fieldOf = fieldsOf x := by
        unfold fieldsOf
        by_cases h6 : k = 6
        · rw [h6]
        · have hk2 : k = x.length := by omega
          rw [hk2, List.take_length, List.take_of_length_le (by omega)]
      rw [hend] at hrow
      have hlc : (¬ k < x.length) ∨ (k < x.length ∧ ¬ k < 6) := by omega
      obtain ⟨A2, c2, rfl⟩ := own_slice hrow
      have d0 := hr.c0
      have d1 := hr.c1
      have g1 := hr.f1
      have d2 := hm.c0
      have d3 := hm.c1
      have g2 := hm.f0
      have g3 := hm.f1
      have Hr := Lib.hid hr
      have Row := Lib.hid hrow
      have Hb := Lib.hid hb
      clear hend hr hm hrow hb hA
      rcases hlc with hlc | ⟨hlc, hlc2⟩
      all_goals
        go_wp2_with (go_at_call 26; refine (cut_calls body 200 (by decide) hbs _).mono ?_; rintro e w' ⟨rfl, rfl⟩)
        have hres := ownsRow_base (base2 := w.heap.size) (by omega) (ownsRow_setCell_below (ownsRow_setCell_below (ownsRow_setCell_below Row.out (a := ⟨w.heap.size + 1, 1, none⟩) (by show w.heap.size + 1 < w.heap.size + 2; omega) (.string (cutS body 200))) (a := ⟨w.heap.size, 0, none⟩) (by show w.heap.size < w.heap.size + 2; omega) (.slice A2 (fieldsOf x).length c2)) (a := ⟨w.heap.size, 1, none⟩) (by show w.heap.size < w.heap.size + 2; omega) (.string (cutS body 200)))
        have hbel := ((Hb.out.setCell (p := ⟨w.heap.size + 1, 1, none⟩) (Nat.le_succ _) (.string (cutS body 200))).setCell (p := ⟨w.heap.size, 0, none⟩) (Nat.le_refl _) (.slice A2 (fieldsOf x).length c2)).setCell (p := ⟨w.heap.size, 1, none⟩) (Nat.le_refl _) (.string (cutS body 200))
        exact bodyPost_ret (v := .agg #[.slice A2 (fieldsOf x).length c2, .string (cutS body 200)]) (by simp [results, Tryd.results21, go_sem, d2, d3]) rfl ⟨_, rfl, hres, hbel⟩
end Go.Proofs.YtlbibklbckabnaaDoor
