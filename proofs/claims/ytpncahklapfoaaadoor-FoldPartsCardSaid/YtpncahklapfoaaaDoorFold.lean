/- Plain words: the state that batches of a user make. States in memory of their types: they stay as they are where blocks of other types are written. book.Fold: what it returns. -/
import Derived.Test.YtpncahklapfoaaaDoorStateP
import Derived.Test.YtpncahklapfoaaaDoorBkPlain
import Derived.Test.YtpncahklapfoaaaDoorBats
import Derived.Test.YtpncahklapfoaaaDoorSameS
namespace Go.Proofs.YtpncahklapfoaaaDoor
open Go.RowKit
set_option linter.unusedVariables false

def foldB (u : Int) (s : StS) (b : BatS) : StS := if b.user = u then (if (allR s b.es).1 = 0 then (allR s b.es).2 else s) else s
/-- The state that batches make. -/
def foldR (u : Int) (l : List BatS) (s : StS) : StS := l.foldl (foldB u) s
def mineL (u : Int) (l : List BatS) : List BatS := l.filter fun b => decide (b.user = u)
theorem fold_mine (u : Int) : ∀ (l : List BatS) (s : StS), foldR u (mineL u l) s = foldR u l s
  | [], s => rfl
  | b :: r, s => by
    unfold mineL
    by_cases h : b.user = u
    · rw [List.filter_cons_of_pos (by simp [h])]
      exact fold_mine u r (foldB u s b)
    · rw [List.filter_cons_of_neg (by simp [h])]
      have e : foldR u (b :: r) s = foldR u r s := by
        show foldR u r (foldB u s b) = _
        unfold foldB
        rw [if_neg h]
      rw [e]
      exact fold_mine u r s
theorem vld_foldB {s : StS} (h : Vld s) (u : Int) (b : BatS) : Vld (foldB u s b) := by
  unfold foldB
  split
  · split
    · next hz => exact vld_all s b.es hz
    · exact h
  · exact h
theorem vld_foldR (u : Int) : ∀ (l : List BatS) (s : StS), Vld s → Vld (foldR u l s)
  | [], s, h => h
  | b :: r, s, h => vld_foldR u r _ (vld_foldB h u b)
theorem add_boxes (s : StS) (i : Nat) (fl : Int) (t : ByteArray) : (addR s i fl t).2.boxes.length = s.boxes.length := by
  unfold addR
  split
  · rfl
  · split
    · rfl
    · simp
theorem apply_boxes (s : StS) (x : Ent) : s.boxes.length ≤ (applyR s x).2.boxes.length := by
  unfold applyR
  split
  · split <;> exact Nat.le_refl _
  · split
    · split
      · exact Nat.le_refl _
      · split
        · exact Nat.le_refl _
        · simp
    · split
      · exact Nat.le_refl _
      · split
        · exact Nat.le_refl _
        · split
          · rw [add_boxes]; exact Nat.le_refl _
          · split
            · simp
            · split
              · exact Nat.le_refl _
              · split
                · exact Nat.le_refl _
                · split
                  · simp
                  · split
                    · exact Nat.le_refl _
                    · rw [add_boxes]; exact Nat.le_refl _
theorem go_boxes : ∀ (l : List Ent) (s : StS), s.boxes.length ≤ (goR s l).2.boxes.length
  | [], s => Nat.le_refl _
  | x :: r, s => by
    unfold goR
    split
    · exact Nat.le_refl _
    · split
      · exact apply_boxes s x
      · exact Nat.le_trans (apply_boxes s x) (go_boxes r _)
theorem all_boxes (s : StS) (l : List Ent) (h : (allR s l).1 = 0) : s.boxes.length ≤ (allR s l).2.boxes.length := by
  unfold allR at h ⊢
  split
  · next h1 => rw [if_pos h1] at h; exact absurd h h1
  · next h1 =>
    rw [if_neg h1] at h
    split
    · next h2 => rw [if_pos h2] at h; cases h
    · next h2 =>
      rw [if_neg h2] at h
      split
      · next h3 => rw [if_pos h3] at h; exact absurd h h3
      · exact go_boxes l s
theorem foldB_boxes (u : Int) (s : StS) (b : BatS) : s.boxes.length ≤ (foldB u s b).boxes.length := by
  unfold foldB
  split
  · split
    · next hz => exact all_boxes s b.es hz
    · exact Nat.le_refl _
  · exact Nat.le_refl _
theorem fold_boxes (u : Int) : ∀ (l : List BatS) (s : StS), s.boxes.length ≤ (foldR u l s).boxes.length
  | [], s => Nat.le_refl _
  | b :: r, s => Nat.le_trans (foldB_boxes u s b) (fold_boxes u r _)
theorem fold_snoc (u : Int) (l : List BatS) (b : BatS) (s : StS) : foldR u (l ++ [b]) s = foldB u (foldR u l s) b := by
  unfold foldR
  rw [List.foldl_append]
  rfl
theorem mine_snoc (u : Int) (l : List BatS) (b : BatS) : mineL u (l ++ [b]) = if b.user = u then mineL u l ++ [b] else mineL u l := by
  unfold mineL
  rw [List.filter_append]
  by_cases h : b.user = u
  · rw [if_pos h]; simp [h]
  · rw [if_neg h]; simp [h]
end Go.Proofs.YtpncahklapfoaaaDoor
namespace Go.Proofs.YtpncahklapfoaaaDoor
open Go.RowKit
set_option linter.unusedVariables false

structure StTyV (w : World) (s : StS) (vb vs : Value) (vm : List Value) : Prop where
  rb : w.ownsRow 0 83 3 vb s.boxes.length (boxesCells s.boxes vm)
  rs : w.ownsRow 0 63 6 vs s.spool.length (entsCells s.spool)
  ln : vm.length = s.boxes.length
  rm : ∀ (j : Nat) (b : BoxS) (v : Value), s.boxes[j]? = some b → vm[j]? = some v → w.ownsRow 0 85 3 v b.mails.length (mailsCells b.mails)
theorem OwnSt.ty {w : World} {B p : Nat} {s : StS} {vb vs : Value} {vm : List Value} (h : OwnSt w B p s vb vs vm) : StTyV w s vb vs vm :=
  ⟨row_base (Nat.zero_le _) h.rb, row_base (Nat.zero_le _) h.rs, h.ln, fun j b v hb hv => row_base (Nat.zero_le _) (h.rm j b v hb hv)⟩
section
variable {w w' : World} {s : StS} {vb vs : Value} {vm : List Value}
theorem StTyV.vmAt (h : StTyV w s vb vs vm) (j : Nat) (b : BoxS) (hb : s.boxes[j]? = some b) : ∃ A c, vm[j]? = some (.slice A b.mails.length c) := by
  have hjl : j < s.boxes.length := (List.getElem?_eq_some_iff.1 hb).1
  have hl := h.ln
  have hv : vm[j]? = some (vm[j]'(by omega)) := by simp
  obtain ⟨A, c, e⟩ := own_sliceE (h.rm j b _ hb hv)
  exact ⟨A, c, by rw [hv, e]⟩
theorem StTyV.bx (h : StTyV w s vb vs vm) {A : Option Addr} {c : Nat} (e : vb = .slice A s.boxes.length c) : BxAt w A s.boxes := by
  intro j b hb
  obtain ⟨Am, cm, hv⟩ := h.vmAt j b hb
  have hjl : j < s.boxes.length := (List.getElem?_eq_some_iff.1 hb).1
  have hrb := h.rb
  obtain ⟨g, c2, e2, _, _⟩ := hrb.form (by omega)
  have hc : ∀ i, i < 3 → w.cell? ⟨g, 0 + j * 3 + i, none⟩ = (boxCells (b, .slice Am b.mails.length cm))[i]? := fun i hi => by
    rw [Nat.zero_add]
    subst e2
    exact (h.rb.cellAt (j * 3 + i) (by omega)).trans (flat_get boxCells 3 (fun _ => rfl) _ j (b, _) (zip_get _ _ j b _ hb hv) i hi)
  rw [e] at e2
  obtain ⟨rfl, _, rfl⟩ := Value.slice.inj e2
  have hr := h.rm j b _ hb hv
  exact ⟨g, 0, Am, cm, rfl, hc 0 (by decide), hc 1 (by decide), hc 2 (by decide), ⟨own_cap hr, own_nil hr⟩, ms_of_own hr rfl⟩
end
/-- A state in memory of its types. -/
def StTy (w : World) (A : Option Addr) (c : Nat) (A2 : Option Addr) (c2 : Nat) (s : StS) : Prop := ∃ vm, StTyV w s (.slice A s.boxes.length c) (.slice A2 s.spool.length c2) vm
section
variable {w w' : World} {A A2 : Option Addr} {c c2 : Nat} {s : StS}
theorem StTy.at (h : StTy w A c A2 c2 s) : StAt w A c A2 c2 s := by
  obtain ⟨vm, h⟩ := h
  exact ⟨h.bx rfl, own_cap h.rb, ownsRow_ents h.rs rfl, own_nil h.rs⟩
theorem StTy.later (hb : Below w.heap.size w w') (h : StTy w A c A2 c2 s) : StTy w' A c A2 c2 s := by
  obtain ⟨vm, h⟩ := h
  exact ⟨vm, row_later hb h.rb, row_later hb h.rs, h.ln, fun j b v hb' hv => row_later hb (h.rm j b v hb' hv)⟩
theorem StTy.setSl (h : StTy w A c A2 c2 s) {q : Nat} {cs : List Value} (hb : Bk w q cs 56) (j : Nat) (u : Value) : StTy (w.setCell ⟨q, j, none⟩ u) A c A2 c2 s := by
  obtain ⟨vm, h⟩ := h
  exact ⟨vm, own_set h.rb hb (by decide) j u, own_set h.rs hb (by decide) j u, h.ln, fun i b v hb' hv => own_set (h.rm i b v hb' hv) hb (by decide) j u⟩
theorem StTy.grown (h : StTy w A c A2 c2 s) {B n : Nat} {v : Value} {xs : List Value} (hv : w.ownsRow B 25 2 v n xs) (hg : w.grownBy w' v.ownBlock) : StTy w' A c A2 c2 s := by
  obtain ⟨vm, h⟩ := h
  exact ⟨vm, row_grown h.rb hg (own_ne h.rb hv (by decide)), row_grown h.rs hg (own_ne h.rs hv (by decide)), h.ln, fun i b u hb' hu => row_grown (h.rm i b u hb' hu) hg (own_ne (h.rm i b u hb' hu) hv (by decide))⟩
end
theorem OwnSt.sty {w : World} {B p : Nat} {s : StS} {A A2 : Option Addr} {c c2 : Nat} {vm : List Value} (h : OwnSt w B p s (.slice A s.boxes.length c) (.slice A2 s.spool.length c2) vm) : StTy w A c A2 c2 s := ⟨vm, h.ty⟩
end Go.Proofs.YtpncahklapfoaaaDoor
namespace Go.Proofs.YtpncahklapfoaaaDoor
open Go.RowKit
set_option linter.unusedVariables false

theorem inb_one : allR noneS [⟨1, nmN 0, 0, 0, ⟨#[]⟩, ⟨#[]⟩⟩] = (0, inbS) := by decide
theorem vld_none : Vld noneS := (vld_iff noneS).1 (by decide)
/-- What Fold ends in: the state lies in memory. -/
def FoldOk (w : World) (u : Int) (s : StS) (e : Ending) (w' : World) : Prop :=
  Below w.heap.size w w' ∧ if u < 3 then ∃ A c A2 c2, e = .returned (.tuple #[.agg #[.slice A s.boxes.length c, .slice A2 s.spool.length c2], .int .i64 0]) ∧ StTy w' A c A2 c2 s
  else e = .returned (.tuple #[.agg #[.slice none 0 0, .slice none 0 0], .int .i64 6])
set_option maxRecDepth 100000 in
set_option maxHeartbeats 8000000 in
theorem fold_calls (l : List BatS) (u : Int) (A : Option Addr) (c : Nat) (m : Int) (w : World) (hA : BatsAt w A l) (hg : ∀ b ∈ l, GoodB b) (hl : l.length ≤ 1000) (hu : 0 ≤ u ∧ u ≤ 3) (hm : w.cell? ⟨0, 0, none⟩ = some (.int .i64 m)) :
    Calls Tryd.prog 24 #[.slice A l.length c, .int .i64 u] w fun e w' => FoldOk w u (foldR u l inbS) e w' := by
  have hbA : Below w.heap.size w (w.alloc (.cells #[.slice none 0 0, .slice none 0 0] 56)) := (Below.refl _ w).alloc (Nat.le_refl _) _
  have hR := Bk.new w [.slice none 0 0, .slice none 0 0] 56
  have HA := Lib.hid (hA.later hbA)
  have Hm := Lib.hid (cell_later hbA hm)
  have HbA := Lib.hid hbA
  have HR := Lib.hid hR
  have Hg := Lib.hid hg
  have hrl := hR.lt
  clear hbA hR hg hm hA
  go_enter Tryd.func24, Tryd.ntmps24
  go_upto_region 2 with fail
  generalize w.alloc (.cells #[.slice none 0 0, .slice none 0 0] 56) = W at *
  go_loopw [17] (fun i wr => ∃ k : Nat, k ≤ l.length ∧ i = .int .i64 k ∧ Hid (Below W.heap.size W wr)) (fun i _ => l.length - (intOf i).toNat)
  case atStart => exact ⟨0, Nat.zero_le _, rfl, Lib.hid (Below.refl _ _)⟩
  case round =>
    obtain ⟨k, hk, rfl, Hb⟩ := hrel
    by_cases hlt : k < l.length
    · have hga : l[k]? = some l[k] := by simp [hlt]
      obtain ⟨g, off, Ae, ce, hA1, c0, c1', hea⟩ := (HA.out.later Hb.out) k l[k] hga
      have hgb := Hg.out l[k] (List.getElem_mem hlt)
      generalize l[k] = b at *
      have hk0 : (0 : Int) ≤ (k : Int) := by omega
      have hkn : (k : Int) < (l.length : Int) := by omega
      have hal : Below wr.heap.size wr (wr.alloc (.cells #[.int .i64 b.user, .slice Ae b.es.length ce] 25)) := (Below.refl _ wr).alloc (Nat.le_refl _) _
      have hP := Bk.new wr [.int .i64 b.user, .slice Ae b.es.length ce] 25
      have hck := check_book b.user b.es Ae ce m _ (hea.later hal) hgb.sm (by have := hgb.em; omega) (cell_later hal (cell_later Hb.out Hm.out))
      rw [hgb.ok] at hck
      have Hck := Lib.hid hck
      have Hal := Lib.hid (btr Hb.out hal)
      clear hck hal hea hga hgb
      subst hA1
      go_upto_region 4 with fail
      generalize wr.alloc (.cells #[.int .i64 b.user, .slice Ae b.es.length ce] 25) = w1 at *
      have p0 := hP.cell 0 _ rfl
      have p1 := hP.cell 1 _ rfl
      go_wp2_with fail
      refine Hck.out.mono ?_
      rintro e w2 ⟨rfl, hb2⟩
      have Hb3 := Lib.hid (btr Hal.out hb2)
      clear hb2 p0 p1 hP c0 c1'
      go_wp2_with fail
      go_roundw
      case rel => exact ⟨k + 1, by omega, by go_num, Hb3⟩
      case measure => simp [intOf]; omega
    · obtain rfl : k = l.length := by omega
      have hR2 := HR.out.later Hb.out
      by_cases hu3 : u < 3
      · have hu0 : ¬ u < 0 := by omega
        have hu3' : ¬ (3 : Int) ≤ u := by omega
        have hap := aply_ok noneS ⟨1, nmN 0, 0, 0, ⟨#[]⟩, ⟨#[]⟩⟩ none none 0 0 m wr (stAt_none wr) vld_none ⟨by decide, by decide, by decide⟩ (cell_later Hb.out Hm.out)
        rw [inb_one] at hap
        have Hap := Lib.hid hap
        clear hap hR2
        go_wp2_with fail
        refine Hap.out.mono ?_
        intro e w2 h2
        unfold AplyOk at h2
        obtain ⟨A9, c9, B9, d9, rfl, _, hown2, hb2⟩ := h2
        obtain ⟨vm2, p2, hO2⟩ := hown2 rfl
        have hat2 := hO2.sty
        simp only at hat2 ⊢
        clear hown2 hO2
        have hal : Below w2.heap.size w2 (w2.alloc (.cells #[.slice A9 inbS.boxes.length c9, .slice B9 inbS.spool.length d9] 56)) := (Below.refl _ w2).alloc (Nat.le_refl _) _
        have hQ := Bk.new w2 [.slice A9 inbS.boxes.length c9, .slice B9 inbS.spool.length d9] 56
        have HQ := Lib.hid hQ
        have HS := Lib.hid (hat2.later hal)
        have Hal := Lib.hid hal
        have HA2 := Lib.hid (HA.out.later (btr Hb.out hb2))
        have Hm2 := Lib.hid (cell_later (btr Hb.out hb2) Hm.out)
        have HR2 := Lib.hid (HR.out.later (btr Hb.out hb2))
        have Hb2 := Lib.hid (btr HbA.out (btr Hb.out hb2))
        have hrl2 := HR2.out.lt
        clear hal hQ hat2 hb2 Hap
        go_upto_region 11 with fail
        generalize w2.alloc (.cells #[.slice A9 inbS.boxes.length c9, .slice B9 inbS.spool.length d9] 56) = w3 at *
        go_upto_region 12 with fail
        go_loopw [43] (fun i wr => ∃ (k : Nat) (A9 : Option Addr) (c9 : Nat) (B9 : Option Addr) (d9 : Nat), k ≤ l.length ∧ i = .int .i64 k ∧ Bk wr w2.heap.size [.slice A9 (foldR u (l.take k) inbS).boxes.length c9, .slice B9 (foldR u (l.take k) inbS).spool.length d9] 56 ∧ Hid (StTy wr A9 c9 B9 d9 (foldR u (l.take k) inbS)) ∧ Hid (Below w2.heap.size w2 wr)) (fun i _ => l.length - (intOf i).toNat)
        case atStart => exact ⟨0, A9, c9, B9, d9, Nat.zero_le _, rfl, HQ.out, HS, Hal⟩
        case round =>
          obtain ⟨k, A9, c9, B9, d9, hk, rfl, hQ, HS, Hb⟩ := hrel
          clear HQ
          by_cases hlt : k < l.length
          · have hga : l[k]? = some l[k] := by simp [hlt]
            obtain ⟨g, off, Ae, ce, hA1, c0, c1', hea⟩ := (HA2.out.later Hb.out) k l[k] hga
            have hgb := Hg.out l[k] (List.getElem_mem hlt)
            have hfs : foldR u (l.take (k + 1)) inbS = foldB u (foldR u (l.take k) inbS) l[k] := by rw [List.take_succ_eq_append_getElem hlt, fold_snoc]
            have hv := vld_foldR u (l.take k) inbS vld_inb
            generalize foldR u (l.take k) inbS = s at *
            generalize l[k] = b at *
            have hk0 : (0 : Int) ≤ (k : Int) := by omega
            have hkn : (k : Int) < (l.length : Int) := by omega
            have hal : Below wr.heap.size wr (wr.alloc (.cells #[.int .i64 b.user, .slice Ae b.es.length ce] 25)) := (Below.refl _ wr).alloc (Nat.le_refl _) _
            have hP := Bk.new wr [.int .i64 b.user, .slice Ae b.es.length ce] 25
            have HP := Lib.hid hP
            have HQ4 := Lib.hid (hQ.later hal)
            have HS4 := Lib.hid (HS.out.later hal)
            have HE4 := Lib.hid (hea.later hal)
            have Hb4 := Lib.hid (btr Hb.out hal)
            have Hfs := Lib.hid hfs
            have Hgb := Lib.hid hgb
            have Hv := Lib.hid hv
            clear hal hP hQ hea hga hfs hgb hv
            subst hA1
            go_upto_region 14 with fail
            generalize wr.alloc (.cells #[.int .i64 b.user, .slice Ae b.es.length ce] 25) = w4 at *
            clear c0 c1'
            have p0 := HP.out.cell 0 _ rfl
            have p1 := HP.out.cell 1 _ rfl
            by_cases hbu : b.user = u
            · obtain ⟨bu, be⟩ := b
              simp only at hbu
              subst hbu
              have t0 := HQ4.out.cell 0 _ rfl
              have t1 := HQ4.out.cell 1 _ rfl
              have hcall := (all_calls s be A9 B9 Ae c9 d9 ce m w4 HS4.out.at Hv.out.okC HE4.out Hgb.out.sm (by have := Hgb.out.em; simp only at this; omega) (cell_later Hb4.out Hm2.out)).mono fun _ _ h => allOk_at h
              have Hcall := Lib.hid hcall
              clear hcall
              go_wp2_with fail
              refine Hcall.out.mono ?_
              intro e w5 h5
              unfold AplyOk at h5
              have hfs := Hfs.out
              unfold foldB at hfs
              rw [if_pos rfl] at hfs
              simp only at hfs
              generalize allR s be = r at *
              obtain ⟨A5, c5, B5, d5, rfl, _, hown5, hb5⟩ := h5
              have hal : Below w5.heap.size w5 (w5.alloc (.cells #[.slice A5 r.2.boxes.length c5, .slice B5 r.2.spool.length d5] 56)) := (Below.refl _ w5).alloc (Nat.le_refl _) _
              have hX := Bk.new w5 [.slice A5 r.2.boxes.length c5, .slice B5 r.2.spool.length d5] 56
              have hb46 := btr hb5 hal
              have HX := Lib.hid hX
              have hat5 : r.1 = 0 → StTy (w5.alloc (.cells #[.slice A5 r.2.boxes.length c5, .slice B5 r.2.spool.length d5] 56)) A5 c5 B5 d5 r.2 := fun hz => by
                obtain ⟨vm5, p5, hO5⟩ := hown5 hz
                exact hO5.sty.later hal
              have HS6 := Lib.hid hat5
              clear hown5
              have HQ6 := Lib.hid (HQ4.out.later hb46)
              have HO6 := Lib.hid (HS4.out.later hb46)
              have Hb6 := Lib.hid (btr Hb4.out hb46)
              have Hfs := Lib.hid hfs
              clear hal hX hb46 hat5 hb5 t0 t1 p0 p1 Hcall hfs
              go_upto_region 16 with fail
              generalize w5.alloc (.cells #[.slice A5 r.2.boxes.length c5, .slice B5 r.2.spool.length d5] 56) = w6 at *
              by_cases hr : r.1 = 0
              · have hfs := Hfs.out
                rw [if_pos hr] at hfs
                rw [hr]
                have x0 := HX.out.cell 0 _ rfl
                have x1 := HX.out.cell 1 _ rfl
                have t0 := HQ6.out.cell 0 _ rfl
                have t1 := HQ6.out.cell 1 _ rfl
                have f0 := HQ6.out.frozen 0
                have f1 := HQ6.out.frozen 1
                have hQ7 := (HQ6.out.set 0 (.slice A5 r.2.boxes.length c5)).set 1 (.slice B5 r.2.spool.length d5)
                have hS7 := ((HS6.out hr).setSl HQ6.out 0 (.slice A5 r.2.boxes.length c5)).setSl (HQ6.out.set 0 (.slice A5 r.2.boxes.length c5)) 1 (.slice B5 r.2.spool.length d5)
                have hb7 := (Hb6.out.setCell (p := ⟨w2.heap.size, 0, none⟩) (Nat.le_refl _) (.slice A5 r.2.boxes.length c5)).setCell (p := ⟨w2.heap.size, 1, none⟩) (Nat.le_refl _) (.slice B5 r.2.spool.length d5)
                have HQ7 := Lib.hid hQ7
                have HS7 := Lib.hid hS7
                have Hb7 := Lib.hid hb7
                have Hfs2 := Lib.hid hfs
                clear hQ7 hS7 hb7 hfs
                go_wp2_with fail
                go_roundw
                case rel => exact ⟨k + 1, A5, c5, B5, d5, by omega, by go_num, by rw [Hfs2.out]; exact HQ7.out, by rw [Hfs2.out]; exact HS7, Hb7⟩
                case measure => simp [intOf]; omega
              · have hfs := Hfs.out
                rw [if_neg hr] at hfs
                have Hfs2 := Lib.hid hfs
                have hr' : (r.1 == 0) = false := by rw [beq_eq_false_iff_ne]; exact hr
                clear hfs
                go_wp2_with fail
                go_roundw
                case rel => exact ⟨k + 1, A9, c9, B9, d9, by omega, by go_num, by rw [Hfs2.out]; exact HQ6.out, by rw [Hfs2.out]; exact HO6, Hb6⟩
                case measure => simp [intOf]; omega
            · have hbu' : (b.user == u) = false := by rw [beq_eq_false_iff_ne]; exact hbu
              have hfs := Hfs.out
              unfold foldB at hfs
              rw [if_neg hbu] at hfs
              have Hfs2 := Lib.hid hfs
              clear hfs
              go_wp2_with fail
              go_roundw
              case rel => exact ⟨k + 1, A9, c9, B9, d9, by omega, by go_num, by rw [Hfs2.out]; exact HQ4.out, by rw [Hfs2.out]; exact HS4, Hb4⟩
              case measure => simp [intOf]; omega
          · obtain rfl : k = l.length := by omega
            rw [List.take_length] at hQ HS
            generalize hs : foldR u l inbS = s at *
            have Hs := Lib.hid hs
            have hR3 := HR2.out.below Hb.out hrl2
            have t0 := hQ.cell 0 _ rfl
            have t1 := hQ.cell 1 _ rfl
            have r0 := hR3.cell 0 _ rfl
            have r1 := hR3.cell 1 _ rfl
            have f0 := hR3.frozen 0
            have f1 := hR3.frozen 1
            have hZ := (hR3.set 0 (.slice A9 s.boxes.length c9)).set 1 (.slice B9 s.spool.length d9)
            have z0 := hZ.cell 0 _ rfl
            have z1 := hZ.cell 1 _ rfl
            have hSz := (HS.out.setSl hR3 0 (.slice A9 s.boxes.length c9)).setSl (hR3.set 0 (.slice A9 s.boxes.length c9)) 1 (.slice B9 s.spool.length d9)
            have hbz := ((btr Hb2.out Hb.out).setCell (p := ⟨w.heap.size, 0, none⟩) (Nat.le_refl _) (.slice A9 s.boxes.length c9)).setCell (p := ⟨w.heap.size, 1, none⟩) (Nat.le_refl _) (.slice B9 s.spool.length d9)
            have HSz := Lib.hid hSz
            have Hbz := Lib.hid hbz
            clear hs hZ hSz hbz hR3 hQ
            go_wp2_with fail
            exact bodyPost_ret (v := .tuple #[.agg #[.slice A9 s.boxes.length c9, .slice B9 s.spool.length d9], .int .i64 0]) (by simp [results, Tryd.results24, go_sem, z0, z1]) rfl ⟨Hbz.out, by rw [if_pos hu3, Hs.out]; exact ⟨_, _, _, _, rfl, HSz.out⟩⟩
      · have hu0 : ¬ u < 0 := by omega
        have hu3' : (3 : Int) ≤ u := by omega
        have r0 := hR2.cell 0 _ rfl
        have r1 := hR2.cell 1 _ rfl
        have f0 := hR2.frozen 0
        have f1 := hR2.frozen 1
        have hZ := (hR2.set 0 (.slice none 0 0)).set 1 (.slice none 0 0)
        have z0 := hZ.cell 0 _ rfl
        have z1 := hZ.cell 1 _ rfl
        have hbz := ((btr HbA.out Hb.out).setCell (p := ⟨w.heap.size, 0, none⟩) (Nat.le_refl _) (.slice none 0 0)).setCell (p := ⟨w.heap.size, 1, none⟩) (Nat.le_refl _) (.slice none 0 0)
        have Hbz := Lib.hid hbz
        clear hbz hZ hR2
        go_wp2_with fail
        exact bodyPost_ret (v := .tuple #[.agg #[.slice none 0 0, .slice none 0 0], .int .i64 6]) (by simp [results, Tryd.results24, go_sem, z0, z1]) rfl ⟨Hbz.out, by rw [if_neg (by omega)]⟩
end Go.Proofs.YtpncahklapfoaaaDoor
