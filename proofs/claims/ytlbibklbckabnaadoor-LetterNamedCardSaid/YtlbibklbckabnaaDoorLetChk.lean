/- The functions Check and Show of package letter, and the helper sameMessage of the statements. -/
import Derived.Test.YtlbibklbckabnaaDoorShow
import Derived.Deep.QuietTactic
import Derived.BigQuiet
namespace Go.Proofs.YtlbibklbckabnaaDoor
open Go.RowKit
set_option linter.unusedVariables false

theorem contains_crlf {l : List UInt8} (h : crlfL l = none) : Lib.contains l [13, 10] = false := by
  have hc := cut_crlf l
  rw [h] at hc
  unfold Lib.cut at hc
  unfold Lib.contains
  by_cases h0 : 0 ≤ Lib.index l [13, 10]
  · rw [if_pos h0] at hc
    simp at hc
  · simpa using h0
/-- May a field be so in a message? -/
structure MayF (f : Fld) : Prop where
  name : nameL (bs f.name) = true
  one : crlfL (bs f.value) = none
  trim : trimL (bs f.value) = bs f.value
/-- What stands while a field is checked. -/
structure KC (w W : World) (v : Value) (body : ByteArray) (m : Int) : Prop where
  mb : MB W w.heap.size v body
  bel : Below w.heap.size w W
  mm : W.cell? ⟨0, 0, none⟩ = some (.int .i64 m)
theorem KC.later {w W W' : World} {v : Value} {body : ByteArray} {m : Int} (h : KC w W v body m) (hb : Below W.heap.size W W') : KC w W' v body m :=
  ⟨h.mb.below hb h.mb.lt, h.bel.trans (hb.mono h.bel.size), cell_later hb h.mm⟩
theorem name_keepC {w W : World} {v : Value} {body : ByteArray} {m : Int} {b : Nat} {n s : ByteArray} (hn : nameL (bs n) = true) (hs : n.size ≤ 100000)
    (hS : W.cell? ⟨b, 0, none⟩ = some (.string n) ∧ W.cell? ⟨b, 1, none⟩ = some (.string s) ∧ KC w W v body m) :
    Calls Tryd.prog 38 #[.string n] W fun e w' => e = .returned (.bool true) ∧ (w'.cell? ⟨b, 0, none⟩ = some (.string n) ∧ w'.cell? ⟨b, 1, none⟩ = some (.string s) ∧ KC w w' v body m) :=
  (name_calls n W hs).mono fun e w' ⟨he, hw⟩ => ⟨by rw [he, hn], hw ▸ hS⟩
theorem contains_keepC {w W : World} {v : Value} {body : ByteArray} {m : Int} {b : Nat} {n s : ByteArray} (hc : crlfL (bs s) = none) (hs : s.size ≤ 100000)
    (hS : W.cell? ⟨b, 0, none⟩ = some (.string n) ∧ W.cell? ⟨b, 1, none⟩ = some (.string s) ∧ KC w W v body m) :
    Calls Tryd.prog 40 #[.string s, .string ⟨#[13, 10]⟩] W fun e w' => e = .returned (.bool false) ∧ (w'.cell? ⟨b, 0, none⟩ = some (.string n) ∧ w'.cell? ⟨b, 1, none⟩ = some (.string s) ∧ KC w w' v body m) :=
  (Tryd.strings_Contains s ⟨#[13, 10]⟩ m W (by omega) hS.2.2.mm).mono fun e w' ⟨he, hw⟩ => ⟨by rw [he]; exact congrArg (fun b => Ending.returned (.bool b)) (contains_crlf hc), hw ▸ hS⟩
theorem trim_keepC {w W : World} {v : Value} {body : ByteArray} {m : Int} {b : Nat} {n s : ByteArray} (ht : trimL (bs s) = bs s) (hs : s.size ≤ 100000)
    (hS : W.cell? ⟨b, 0, none⟩ = some (.string n) ∧ W.cell? ⟨b, 1, none⟩ = some (.string s) ∧ KC w W v body m) :
    Calls Tryd.prog 37 #[.string s, .string ⟨#[32, 9]⟩] W fun e w' => e = .returned (.string s) ∧ (w'.cell? ⟨b, 0, none⟩ = some (.string n) ∧ w'.cell? ⟨b, 1, none⟩ = some (.string s) ∧ KC w w' v body m) :=
  (trim_calls s W hs).mono fun e w' ⟨he, hb⟩ => ⟨by rw [he, ht, mkS_bs], cell_later hb hS.1, cell_later hb hS.2.1, hS.2.2.later hb⟩

/-- What Check answers of a message whose fields may be so. -/
def chkR (n : Nat) : Int := if 2000 < n then 1 else 0
set_option maxRecDepth 100000 in
set_option maxHeartbeats 8000000 in
theorem check_msg (fs : List Fld) (A : Option Addr) (c : Nat) (body : ByteArray) (m : Int) (w : World) (hA : kLin.Row w A fs) (hok : ∀ f ∈ fs, MayF f) (h30 : fs.length ≤ 30) (hsz : (showL fs (bs body)).length ≤ 100000) (hm : w.cell? ⟨0, 0, none⟩ = some (.int .i64 m)) :
    Calls Tryd.prog 25 #[.agg #[.slice A fs.length c, .string body]] w fun e w' => e = .returned (.int .i64 (chkR (showL fs (bs body)).length)) ∧ Below w.heap.size w w' := by
  have Hok := Lib.hid hok
  have Hsz := Lib.hid hsz
  have hsum : ∀ f ∈ fs, f.name.size + f.value.size ≤ 100000 := by
    intro f hf
    obtain ⟨k, hk, rfl⟩ := List.getElem_of_mem hf
    have h1 := fldsL_take fs k hk
    have h2 := fldsL_le fs (k + 1)
    rw [h1, List.length_append, fldL_len] at h2
    have h3 := hsz
    rw [showL_len] at h3
    omega
  have Hsum := Lib.hid hsum
  clear hok hsz hsum
  go_enter Tryd.func25, Tryd.ntmps25
  go_wp2_with fail
  obtain ⟨W0, hW0⟩ : ∃ W0 : World, W0 = w.alloc (.cells #[.slice A fs.length c, .string body] 45) := ⟨_, rfl⟩
  have hK0 : KC w W0 (.slice A fs.length c) body m := by
    have hb : Below w.heap.size w W0 := by rw [hW0]; exact (Below.refl _ w).alloc (Nat.le_refl _) _
    exact ⟨by rw [hW0]; exact World.alloc_heap_new w _, hb, cell_later hb hm⟩
  rw [← hW0]
  have HK0 := Lib.hid hK0
  clear hW0 hK0
  go_loopw [13] (fun t wr => ∃ k : Nat, k ≤ fs.length ∧ t = .int .i64 k ∧ Hid (KC w wr (.slice A fs.length c) body m)) (fun t _ => fs.length - (intOf t).toNat)
  case atStart => exact ⟨0, Nat.zero_le _, rfl, HK0⟩
  case round =>
    obtain ⟨k, hk, rfl, HK⟩ := hrel
    clear HK0
    have hK := HK.out
    have m0 := hK.mb.c0
    have m1 := hK.mb.c1
    by_cases hlt : k < fs.length
    · obtain ⟨g, off, rfl, cs, hkk, hcs⟩ := hA.get k hlt
      obtain ⟨rfl, q1, q2⟩ := kLin_cells hkk
      have c0 := cell_later hK.bel (hcs 0 _ rfl)
      have c1 := cell_later hK.bel (hcs 1 _ rfl)
      rw [show off + (k * kLin.sz + 0) = off + k * 2 from rfl] at c0
      rw [show off + (k * kLin.sz + 1) = off + k * 2 + 1 from rfl] at c1
      have hmay := Hok.out fs[k] (List.getElem_mem hlt)
      have hss := Hsum.out fs[k] (List.getElem_mem hlt)
      clear hcs hkk q1 q2
      generalize fs[k] = z at *
      have Hmay := Lib.hid hmay
      have HK1 := Lib.hid (hK.later ((Below.refl wr.heap.size wr).alloc (Nat.le_refl _) (.cells #[.string z.name, .string z.value] 48)))
      have hk0 : (0 : Int) ≤ (k : Int) := by omega
      have hkn : (k : Int) < (fs.length : Int) := by omega
      clear hK hmay
      go_wp2_with fail
      have f0 : (wr.alloc (.cells #[.string z.name, .string z.value] 48)).cell? ⟨wr.heap.size, 0, none⟩ = some (.string z.name) := by rw [World.cell?_alloc_at _ _ _ _ rfl]; rfl
      have f1 : (wr.alloc (.cells #[.string z.name, .string z.value] 48)).cell? ⟨wr.heap.size, 1, none⟩ = some (.string z.value) := by rw [World.cell?_alloc_at _ _ _ _ rfl]; rfl
      have hKd : KC w (wr.alloc (.cells #[.string z.name, .string z.value] 48)).drew (.slice (some ⟨g, off, none⟩) fs.length c) body m := HK1.out.later ⟨rfl, rfl, rfl, Nat.le_refl _, fun _ _ => rfl⟩
      have HKd := Lib.hid hKd
      clear hKd
      go_region_held3 (fun w' => w'.cell? ⟨wr.heap.size, 0, none⟩ = some (.string z.name) ∧ w'.cell? ⟨wr.heap.size, 1, none⟩ = some (.string z.value) ∧ KC w w' (.slice (some ⟨g, off, none⟩) fs.length c) body m) (first | exact hKK | exact ⟨f0, f1, HKd.out⟩)
        (first
          | (go_at_call 38; (with_reducible refine (name_keepC (w := w) (v := .slice (some ⟨g, off, none⟩) fs.length c) (body := body) (m := m) (b := wr.heap.size) (s := z.value) Hmay.out.name (by omega) ?_).mono ?_); (first | assumption | exact hS); rintro e w9 ⟨rfl, hKK⟩)
          | (go_at_call 40; (with_reducible refine (contains_keepC Hmay.out.one (by omega) hKK).mono ?_); clear hKK; rintro e w9 ⟨rfl, hKK⟩)
          | (go_at_call 37; (with_reducible refine (trim_keepC Hmay.out.trim (by omega) hKK).mono ?_); clear hKK; rintro e w9 ⟨rfl, hKK⟩))
      have HKn := Lib.hid hKK.2.2
      clear hKK
      go_wp2
      go_roundw
      case rel => exact ⟨k + 1, by omega, by go_num, HKn⟩
      case measure => simp [intOf]; omega
    · obtain rfl : k = fs.length := by omega
      have hsh := show_calls fs A c body wr (hA.later hK.bel) Hsz.out
      have HSh := Lib.hid hsh
      have hl := mkS_size (showL fs (bs body))
      have HKe := HK
      have hls : (mkS (showL fs (bs body))).size ≤ 100000 := by rw [hl]; exact Hsz.out
      have Hq := Lib.hid hl
      clear hsh hK hl hA
      generalize mkS (showL fs (bs body)) = p at *
      by_cases h2 : 2000 < p.size
      · go_wp2_with fail
        refine HSh.out.mono ?_
        rintro e w5 ⟨rfl, hb5⟩
        have Hb5 := Lib.hid (HK.out.bel.trans (hb5.mono HK.out.bel.size))
        clear HSh hb5
        go_wp2
        go_ret
        exact ⟨by unfold chkR; rw [if_pos (by have := Hq.out; omega)]; rfl, Hb5.out⟩
      · go_wp2_with fail
        refine HSh.out.mono ?_
        rintro e w5 ⟨rfl, hb5⟩
        have Hb5 := Lib.hid (HK.out.bel.trans (hb5.mono HK.out.bel.size))
        clear HSh hb5
        go_wp2
        go_ret
        exact ⟨by unfold chkR; rw [if_neg (by have := Hq.out; omega)]; rfl, Hb5.out⟩
/-- What Show answers. -/
def showR (fs : List Fld) (body : List UInt8) : ByteArray × Int := if 2000 < (showL fs body).length then (⟨#[]⟩, 1) else (mkS (showL fs body), 0)
set_option maxRecDepth 100000 in
set_option maxHeartbeats 4000000 in
theorem show_msg (fs : List Fld) (A : Option Addr) (c : Nat) (body : ByteArray) (m : Int) (w : World) (hA : kLin.Row w A fs) (hok : ∀ f ∈ fs, MayF f) (h30 : fs.length ≤ 30) (hsz : (showL fs (bs body)).length ≤ 100000) (hm : w.cell? ⟨0, 0, none⟩ = some (.int .i64 m)) :
    Calls Tryd.prog 23 #[.agg #[.slice A fs.length c, .string body]] w fun e w' => e = .returned (.tuple #[.string (showR fs (bs body)).1, .int .i64 (showR fs (bs body)).2]) ∧ Below w.heap.size w w' := by
  have hb0 : Below w.heap.size w (w.alloc (.cells #[.slice A fs.length c, .string body] 45)) := (Below.refl _ w).alloc (Nat.le_refl _) _
  have hM0 : MB (w.alloc (.cells #[.slice A fs.length c, .string body] 45)) w.heap.size (.slice A fs.length c) body := World.alloc_heap_new w _
  have hck := check_msg fs A c body m _ (hA.later hb0) hok h30 hsz (cell_later hb0 hm)
  have HCk := Lib.hid hck
  have hs0 : w.heap.size < (w.alloc (.cells #[.slice A fs.length c, .string body] 45)).heap.size := by simp
  go_enter Tryd.func23, Tryd.ntmps23
  clear hck hok
  go_wp2_with fail
  generalize w.alloc (.cells #[.slice A fs.length c, .string body] 45) = W0 at *
  refine HCk.out.mono ?_
  rintro e w1 ⟨rfl, hb1⟩
  have hM1 := hM0.below hb1 hM0.lt
  have m0 := hM1.c0
  have m1 := hM1.c1
  have hbw1 := hb0.trans (hb1.mono (by omega))
  have hsh := show_calls fs A c body w1 (hA.later hbw1) hsz
  have HSh := Lib.hid hsh
  have Hbw := Lib.hid hbw1
  clear hb0 hM0 hb1 hM1 hbw1 hsh HCk hA
  by_cases h2 : 2000 < (showL fs (bs body)).length
  · have hchk : chkR (showL fs (bs body)).length = 1 := if_pos h2
    rw [hchk]
    have hr : showR fs (bs body) = (⟨#[]⟩, 1) := by unfold showR; rw [if_pos h2]
    have Hr := Lib.hid hr
    clear hr h2 hsz hchk
    go_wp2_with fail
    go_ret2
    exact ⟨by rw [Hr.out]; rfl, Hbw.out⟩
  · have hchk : chkR (showL fs (bs body)).length = 0 := if_neg h2
    rw [hchk]
    have hr : showR fs (bs body) = (mkS (showL fs (bs body)), 0) := by unfold showR; rw [if_neg h2]
    have Hr := Lib.hid hr
    clear hr h2 hsz hchk
    go_wp2_with fail
    refine HSh.out.mono ?_
    rintro e w2 ⟨rfl, hb2⟩
    have Hb2 := Lib.hid (Hbw.out.trans (hb2.mono Hbw.out.size))
    clear HSh hb2
    go_wp2_with fail
    go_ret2
    exact ⟨by rw [Hr.out]; rfl, Hb2.out⟩
theorem bel_dN {B : Nat} {x y : World} (h : Below B x y) (n : Nat) : Below B x (y.drewN n) := ⟨h.os, h.tape, h.output, h.size, h.block⟩
theorem mb_dN {W : World} {b : Nat} {v : Value} {s : ByteArray} (h : MB W b v s) (n : Nat) : MB (W.drewN n) b v s := h
/-- Two messages that are the same. -/
theorem row_cells {W : World} {A : Option Addr} {fs : List Fld} {k : Nat} {z : Fld} (h : kLin.Row W A fs) (hk : fs[k]? = some z) : ∃ g off, A = some ⟨g, off, none⟩ ∧ W.cell? ⟨g, off + k * 2, none⟩ = some (.string z.name) ∧ W.cell? ⟨g, off + k * 2 + 1, none⟩ = some (.string z.value) := by
  obtain ⟨hlt, rfl⟩ := List.getElem?_eq_some_iff.1 hk
  obtain ⟨g, off, e, cs, hkk, hcs⟩ := h.get k hlt
  obtain ⟨rfl, _, _⟩ := kLin_cells hkk
  exact ⟨g, off, e, hcs 0 _ rfl, hcs 1 _ rfl⟩
set_option maxRecDepth 100000 in
set_option maxHeartbeats 4000000 in
theorem same_msg (fs : List Fld) (A B : Option Addr) (c d : Nat) (body : ByteArray) (w : World) (hA : kLin.Row w A fs) (hB : kLin.Row w B fs) (h30 : fs.length ≤ 100000) :
    Calls Tryd.prog 24 #[.agg #[.slice A fs.length c, .string body], .agg #[.slice B fs.length d, .string body]] w fun e w' => e = .returned (.bool true) ∧ Below w.heap.size w w' := by
  go_enter Tryd.func24, Tryd.ntmps24
  go_wp2_with fail
  obtain ⟨W0, hW0⟩ : ∃ W0 : World, W0 = (w.alloc (.cells #[.slice A fs.length c, .string body] 45)).alloc (.cells #[.slice B fs.length d, .string body] 45) := ⟨_, rfl⟩
  have hsA : (w.alloc (.cells #[.slice A fs.length c, .string body] 45)).heap.size = w.heap.size + 1 := by simp
  have hbA : Below w.heap.size w (w.alloc (.cells #[.slice A fs.length c, .string body] 45)) := (Below.refl _ w).alloc (Nat.le_refl _) _
  have hbB : Below (w.heap.size + 1) (w.alloc (.cells #[.slice A fs.length c, .string body] 45)) W0 := by rw [hW0, ← hsA]; exact (Below.refl _ _).alloc (Nat.le_refl _) _
  have hM0 : MB W0 w.heap.size (.slice A fs.length c) body := (hbB.block w.heap.size (by omega)).trans (World.alloc_heap_new w _)
  have hN0 : MB W0 (w.heap.size + 1) (.slice B fs.length d) body := by
    have h := World.alloc_heap_new (w.alloc (.cells #[.slice A fs.length c, .string body] 45)) (.cells #[.slice B fs.length d, .string body] 45)
    rw [hsA, ← hW0] at h
    exact h
  have hb0 : Below w.heap.size w W0 := hbA.trans (hbB.mono (by omega))
  rw [← hW0]
  clear hW0 hsA hbA hbB
  go_loopw [5] (fun t wr => ∃ k : Nat, k ≤ fs.length ∧ t = .int .i64 k ∧ Hid (Below w.heap.size w wr) ∧ MB wr w.heap.size (.slice A fs.length c) body ∧ MB wr (w.heap.size + 1) (.slice B fs.length d) body) (fun t _ => fs.length - (intOf t).toNat)
  case atStart => exact ⟨0, Nat.zero_le _, rfl, Lib.hid hb0, hM0, hN0⟩
  case round =>
    obtain ⟨k, hk, rfl, Hb, hM, hN⟩ := hrel
    clear hb0 hM0 hN0
    have m0 := hM.c0
    have n0 := hN.c0
    by_cases hlt : k < fs.length
    · have hget : fs[k]? = some fs[k] := List.getElem?_eq_getElem hlt
      obtain ⟨g, off, rfl, c0, c1⟩ := row_cells (hA.later Hb.out) hget
      obtain ⟨g2, off2, rfl, e0, e1⟩ := row_cells (hB.later Hb.out) hget
      clear hget
      generalize fs[k] = z at *
      have HM := Lib.hid hM
      have HN := Lib.hid hN
      have hk0 : (0 : Int) ≤ (k : Int) := by omega
      have hkn : (k : Int) < (fs.length : Int) := by omega
      clear hM hN
      go_wp2_with fail
      go_quiet (fail)
      go_wp2
      go_roundw
      case rel => exact ⟨k + 1, by omega, by go_num, Lib.hid (bel_dN Hb.out _), mb_dN HM.out _, mb_dN HN.out _⟩
      case measure => simp [intOf]; omega
    · obtain rfl : k = fs.length := by omega
      clear hM hN
      go_wp2
      go_ret
      exact ⟨rfl, Hb.out⟩
end Go.Proofs.YtlbibklbckabnaaDoor
