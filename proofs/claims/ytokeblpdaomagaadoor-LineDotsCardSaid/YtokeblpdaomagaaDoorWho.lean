/- The functions atom, dotted, Check and Part of package who: what they return for every argument of bounded size. -/
import Derived.Test.YtokeblpdaomagaaDoorWhoPlain
import Derived.Test.YtokeblpdaomagaaDoorShelf
import Derived.Test.YtokeblpdaomagaaDoorProg
import Derived.Shelf.Strings.PiecesUse
import Derived.RangeFuncOwn
namespace Go.Proofs.YtokeblpdaomagaaDoor
open Go.RowKit

set_option maxRecDepth 100000 in
set_option maxHeartbeats 1000000 in
theorem atom_calls (c : UInt8) (w : World) :
    Calls Tryd.prog 40 #[.int .u8 c.toNat] w fun e w' => e = .returned (.bool (atomB c)) ∧ w = w' := by
  have hv : atomB c = ((decide (97 ≤ c.toNat) && decide (c.toNat ≤ 122)) || (decide (65 ≤ c.toNat) && decide (c.toNat ≤ 90)) || (decide (48 ≤ c.toNat) && decide (c.toNat ≤ 57)) || marks.contains c) := by
    unfold atomB
    have e : ∀ a b : UInt8, decide (a ≤ b) = decide (a.toNat ≤ b.toNat) := fun a b => by simp [UInt8.le_iff_toNat_le]
    rw [e, e, e, e, e, e]; rfl
  have h : c.toNat < 48 ∨ (48 ≤ c.toNat ∧ c.toNat ≤ 57) ∨ (57 < c.toNat ∧ c.toNat < 65) ∨ (65 ≤ c.toNat ∧ c.toNat ≤ 90) ∨ (90 < c.toNat ∧ c.toNat < 97) ∨ (97 ≤ c.toNat ∧ c.toNat ≤ 122) ∨ 122 < c.toNat := by omega
  have ht : (48 ≤ c.toNat ∧ c.toNat ≤ 57) ∨ (65 ≤ c.toNat ∧ c.toNat ≤ 90) ∨ (97 ≤ c.toNat ∧ c.toNat ≤ 122) → atomB c = true := by
    intro h; rw [hv]; simp; omega
  have hf : ¬ ((48 ≤ c.toNat ∧ c.toNat ≤ 57) ∨ (65 ≤ c.toNat ∧ c.toNat ≤ 90) ∨ (97 ≤ c.toNat ∧ c.toNat ≤ 122)) → atomB c = decide ((0 : Int) ≤ Lib.indexByte marks c) := by
    intro h
    rw [hv, indexByte_iff]
    have e1 : (decide (97 ≤ c.toNat) && decide (c.toNat ≤ 122)) = false := by simp; omega
    have e2 : (decide (65 ≤ c.toNat) && decide (c.toNat ≤ 90)) = false := by simp; omega
    have e3 : (decide (48 ≤ c.toNat) && decide (c.toNat ≤ 57)) = false := by simp; omega
    rw [e1, e2, e3]; rfl
  clear hv
  have e5 : ((c.toNat : Int).toNat).toUInt8 = c := by simp
  rcases h with h | ⟨h, h2⟩ | ⟨h, h2⟩ | ⟨h, h2⟩ | ⟨h, h2⟩ | ⟨h, h2⟩ | h
  all_goals first
    | (rw [ht (by omega)]
       clear ht hf e5
       go_enter Tryd.func40, Tryd.ntmps40
       go_wp2_with fail
       go_ret
       exact ⟨rfl, rfl⟩)
    | (have hf' := hf (by omega)
       clear ht hf
       have Hf := Lib.hid hf'
       have E5 := Lib.hid e5
       clear hf' e5
       go_enter Tryd.func40, Tryd.ntmps40
       go_wp2_with fail
       refine (Tryd.strings_IndexByte (mkS marks) _ _).mono ?_
       rw [E5.out]
       rintro e w' ⟨rfl, rfl⟩
       go_wp2
       go_ret
       refine ⟨?_, rfl⟩
       rw [Hf.out]
       first
         | rfl
         | (have hm2 : (mkS marks).data.toList = marks := rfl
            rw [hm2]
            generalize Lib.indexByte marks c = z
            show Ending.returned (Value.bool _) = Ending.returned (Value.bool _)
            congr 2
            rw [Bool.eq_iff_iff]
            simp
            omega))

theorem splitB_le : ∀ (k : Nat) (s : ByteArray) (p : ByteArray), p ∈ Lib.splitB dotS 0 k s → p.size ≤ s.size
  | 0, s, p, h => by
    rw [Lib.splitB_zero, List.mem_singleton] at h
    rw [h]; exact Nat.le_refl _
  | k + 1, s, p, h => by
    have hx : ∀ a b : Nat, (s.extract a b).size ≤ s.size := by
      intro a b
      rw [extract_mkS, mkS_size, List.length_drop, List.length_take, bs_len]; omega
    rw [Lib.splitB] at h
    split at h
    · rw [List.mem_singleton] at h
      rw [h]; exact Nat.le_refl _
    · rw [List.mem_cons] at h
      rcases h with rfl | h
      · exact hx _ _
      · exact Nat.le_trans (splitB_le k _ p h) (hx _ _)
theorem pieces_all (l : List ByteArray) : l.all (fun p => !(bs p).isEmpty && (bs p).all atomB) = (l.map bs).all (fun p => !p.isEmpty && p.all atomB) := by
  rw [List.all_map]; rfl

set_option maxRecDepth 100000 in
set_option maxHeartbeats 2000000 in
theorem dotted_calls (s : ByteArray) (m : Int) (w : World) (hs : s.size ≤ 100000) (hm : w.cell? ⟨0, 0, none⟩ = some (.int .i64 m)) :
    Calls Tryd.prog 29 #[.string s] w fun e w' => e = .returned (.bool (dotted (bs s))) ∧ Below w.heap.size w w' := by
  have hspec : dotted (bs s) = (Lib.splitB dotS 0 (Lib.countB s dotS) s).all (fun p => !(bs p).isEmpty && (bs p).all atomB) := by
    rw [pieces_all, splitB_segs]; rfl
  have hlen := Lib.splitB_all dotS (by decide) 0 _ s rfl
  have Hspec := Lib.hid hspec
  clear hspec
  have Hm := Lib.hid hm
  clear hm
  go_enter Tryd.func29, Tryd.ntmps29
  go_wp2_with fail
  refine (Tryd.strings_Split s dotS m _ (by omega) Hm.out (by decide)).mono ?_
  rintro e w' ⟨rfl, rfl⟩
  have hb : Below w.heap.size w (w.alloc (.cells ((Lib.splitB dotS 0 (Lib.countB s dotS) s).map Value.string).toArray 9)) := (Below.refl _ w).alloc (Nat.le_refl _) _
  have hcell := fun j x h => Lib.pieces_cell_at w (Lib.splitB dotS 0 (Lib.countB s dotS) s) 9 j x h
  have hle : Lib.countB s dotS ≤ s.size := by
    show Lib.countFrom [46] ((bs s).length + 1) (bs s) ≤ _
    rw [countFrom_dot _ _ (by omega)]
    exact List.count_le_length
  have hps : ∀ p, p ∈ Lib.splitB dotS 0 (Lib.countB s dotS) s → p.size ≤ 100000 := fun p hp => Nat.le_trans (splitB_le _ _ p hp) hs
  generalize hcnt : Lib.countB s dotS = n at *
  generalize Lib.splitB dotS 0 n s = ps at *
  generalize hwn : w.alloc (.cells (ps.map Value.string).toArray 9) = W at *
  have Hwn := Lib.hid hwn
  have Hcnt := Lib.hid hcnt
  clear hwn hcnt
  have Hcell := Lib.hid hcell
  clear hcell
  have Hlen := Lib.hid hlen
  have hlen1 : ps.length ≤ n + 1 := Nat.le_of_eq hlen
  have hlen2 : n + 1 ≤ ps.length := Nat.le_of_eq hlen.symm
  clear hlen
  have Hps := Lib.hid hps
  clear hps
  go_wp2
  go_loop [9] (fun i => ∃ k : Nat, k ≤ n + 1 ∧ i = .int .i64 k ∧ (ps.take k).all (fun p => !(bs p).isEmpty && (bs p).all atomB) = true) (fun i => n + 1 - (intOf i).toNat)
  case atStart => exact ⟨0, Nat.zero_le _, rfl, rfl⟩
  case round =>
    obtain ⟨k, hk, rfl, hgood⟩ := hrel
    have Hgood := Lib.hid hgood
    clear hgood
    by_cases hlt : k < n + 1
    · obtain ⟨p, hp⟩ : ∃ p, ps[k]? = some p := ⟨ps[k]'(by omega), by simp⟩
      have hc := Hcell.out k p hp
      have hpsz := Hps.out p (List.mem_of_getElem? hp)
      have hne : (ps.take (k + 1)) = ps.take k ++ [p] := by
        rw [List.take_add_one, hp]; rfl
      have Hne := Lib.hid hne
      have Hp := Lib.hid hp
      clear hne hp
      have bad : (!(bs p).isEmpty && (bs p).all atomB) = false → dotted (bs s) = false := by
        intro h
        rw [Hspec.out]
        apply Bool.eq_false_iff.2
        intro h2
        have := List.all_eq_true.1 h2 p (List.mem_of_getElem? Hp.out)
        rw [h] at this
        cases this
      have Hbad := Lib.hid bad
      clear bad
      by_cases he : p.size = 0
      · obtain rfl : p = ByteArray.empty := bs_inj (List.length_eq_zero_iff.1 (show (bs p).length = 0 from he))
        clear he
        go_wp2
        go_ret
        exact ⟨by rw [Hbad.out rfl]; rfl, hb⟩
      · have hne : (p.toList == []) = false := by
          rw [toList_bs, beq_eq_false_iff_ne]
          intro h
          exact he (by rw [← bs_len, h]; rfl)
        have hne2 : p.toList.isEmpty = false := by
          cases h : p.toList with
          | nil => rw [h] at hne; cases hne
          | cons a l => rfl
        go_wp2
        go_loop [17] (fun i => ∃ j : Nat, j ≤ p.size ∧ i = .int .i64 j ∧ ((bs p).take j).all atomB = true) (fun i => p.size - (intOf i).toNat)
        case atStart => exact ⟨0, Nat.zero_le _, rfl, rfl⟩
        case round =>
          obtain ⟨j, hj, rfl, hg⟩ := hrel
          have Hg := Lib.hid hg
          clear hg
          by_cases hjl : j < p.size
          · have ha := atom_calls p[j] W
            cases hv : atomB p[j] with
            | true =>
              rw [hv] at ha
              have hg2 : ((bs p).take (j + 1)).all atomB = true := by
                rw [take_snoc p j hjl, List.all_append, Hg.out, List.all_cons, hv]; rfl
              have Ha := Lib.hid ha
              have Hg2 := Lib.hid hg2
              clear ha hv hg2
              go_wp2_with (go_at_call 40; refine Ha.out.mono ?_; rintro e w' ⟨rfl, rfl⟩)
              go_round
              case rel => exact ⟨j + 1, by omega, by go_num, Hg2.out⟩
              case measure => simp [intOf]; omega
            | false =>
              rw [hv] at ha
              have hb2 : (!(bs p).isEmpty && (bs p).all atomB) = false := by
                have h1 : (bs p).all atomB = false := by
                  apply Bool.eq_false_iff.2
                  intro h2
                  have := List.all_eq_true.1 h2 p[j] (List.getElem_mem (by exact hjl))
                  rw [hv] at this
                  cases this
                rw [h1, Bool.and_false]
              have Ha := Lib.hid ha
              have Hb2 := Lib.hid hb2
              clear ha hv hb2
              go_wp2_with (go_at_call 40; refine Ha.out.mono ?_; rintro e w' ⟨rfl, rfl⟩)
              go_ret
              exact ⟨by rw [Hbad.out Hb2.out]; rfl, hb⟩
          · obtain rfl : j = p.size := by omega
            have hg2 : (ps.take (k + 1)).all (fun p => !(bs p).isEmpty && (bs p).all atomB) = true := by
              have h1 := Hg.out
              rw [take_full] at h1
              have h2 : (bs p).isEmpty = false := by rw [← toList_bs]; exact hne2
              rw [Hne.out, List.all_append, Hgood.out, List.all_cons, h1, h2]; rfl
            have Hg2 := Lib.hid hg2
            clear hg2
            go_wp2
            go_round
            case rel => exact ⟨k + 1, by omega, by go_num, Hg2.out⟩
            case measure => simp [intOf]; omega
    · obtain rfl : k = n + 1 := by omega
      have hr : dotted (bs s) = true := by
        have h1 := Hgood.out
        rw [List.take_of_length_le (by omega)] at h1
        rw [Hspec.out]; exact h1
      have Hr := Lib.hid hr
      clear hr
      go_wp2
      go_ret
      exact ⟨by rw [Hr.out]; rfl, hb⟩

/-- An address as a value. -/
structure Adr where
  loc : ByteArray
  dom : ByteArray
def adrVal (a : Adr) : Value := .agg #[.string a.loc, .string a.dom]
/-- What who.Check answers. -/
def checkA (a : Adr) : Int := if dotted (bs a.loc) = true ∧ dotted (bs a.dom) = true then (if 100 < a.loc.size + 1 + a.dom.size then 1 else 0) else 3

theorem cell_later {w w' : World} {a : Addr} {v : Value} (hb : Below w.heap.size w w') (h : w.cell? a = some v) : w'.cell? a = some v := by
  obtain ⟨o, ho, _⟩ := cells_of_cell h
  exact (hb.cell (p := a) (Array.getElem?_eq_some_iff.1 ho).1).trans h

set_option maxRecDepth 100000 in
set_option maxHeartbeats 2000000 in
theorem check_calls (a : Adr) (m : Int) (w : World) (hl : a.loc.size ≤ 100000) (hd : a.dom.size ≤ 100000) (hm : w.cell? ⟨0, 0, none⟩ = some (.int .i64 m)) :
    Calls Tryd.prog 19 #[.agg #[.string a.loc, .string a.dom]] w fun e w' => e = .returned (.int .i64 (checkA a)) ∧ Below w.heap.size w w' := by
  have hb0 := (Below.refl w.heap.size w).alloc (Nat.le_refl _) (.cells #[.string a.loc, .string a.dom] 28)
  have hm1 := cell_later hb0 hm
  have d1 := dotted_calls a.loc m _ hl hm1
  have D1 := Lib.hid d1
  have Hm1 := Lib.hid hm1
  clear hm1 hm d1
  cases h1 : dotted (bs a.loc) with
  | false =>
    have hr : checkA a = 3 := by unfold checkA; rw [if_neg (by rw [h1]; simp)]
    have D1' := D1.out
    rw [h1] at D1'
    have Hr := Lib.hid hr
    have D := Lib.hid D1'
    clear D1 h1 hr D1'
    go_enter Tryd.func19, Tryd.ntmps19
    go_wp2_with fail
    refine D.out.mono ?_
    rintro e w1 ⟨rfl, hb1⟩
    go_wp2
    go_ret
    exact ⟨by rw [Hr.out]; rfl, hb0.trans (hb1.mono hb0.size)⟩
  | true =>
    have D1' := D1.out
    rw [h1] at D1'
    have D := Lib.hid D1'
    clear D1 D1'
    have H1 := Lib.hid h1
    clear h1
    go_enter Tryd.func19, Tryd.ntmps19
    go_wp2_with fail
    refine D.out.mono ?_
    rintro e w1 ⟨rfl, hb1⟩
    have hc0 : (w.alloc (.cells #[.string a.loc, .string a.dom] 28)).cell? ⟨w.heap.size, 0, none⟩ = some (.string a.loc) := by rw [World.cell?_alloc_at _ _ _ _ rfl]; rfl
    have hc1 : (w.alloc (.cells #[.string a.loc, .string a.dom] 28)).cell? ⟨w.heap.size, 1, none⟩ = some (.string a.dom) := by rw [World.cell?_alloc_at _ _ _ _ rfl]; rfl
    have k0 := cell_later hb1 hc0
    have k1 := cell_later hb1 hc1
    have hb2 := hb0.trans (hb1.mono hb0.size)
    have d2 := dotted_calls a.dom m w1 hd (cell_later hb1 Hm1.out)
    clear hc0 hc1 hb1 hb0 Hm1
    cases h2 : dotted (bs a.dom) with
    | false =>
      have hr : checkA a = 3 := by unfold checkA; rw [if_neg (by rw [h2]; simp)]
      rw [h2] at d2
      have Hr := Lib.hid hr
      have D2 := Lib.hid d2
      clear h2 hr d2
      go_wp2_with fail
      refine D2.out.mono ?_
      rintro e w3 ⟨rfl, hb3⟩
      go_wp2
      go_ret
      exact ⟨by rw [Hr.out]; rfl, hb2.trans (hb3.mono hb2.size)⟩
    | true =>
      rw [h2] at d2
      have D2 := Lib.hid d2
      have H2 := Lib.hid h2
      clear h2 d2
      go_wp2_with fail
      refine D2.out.mono ?_
      rintro e w3 ⟨rfl, hb3⟩
      have k30 := cell_later hb3 k0
      have k31 := cell_later hb3 k1
      have hb4 := hb2.trans (hb3.mono hb2.size)
      clear k0 k1 hb3 hb2
      by_cases hz : 100 < a.loc.size + 1 + a.dom.size
      · have hr : checkA a = 1 := by unfold checkA; rw [if_pos ⟨H1.out, H2.out⟩, if_pos hz]
        have Hr := Lib.hid hr
        clear hr
        go_wp2
        go_ret
        exact ⟨by rw [Hr.out]; rfl, hb4⟩
      · have hr : checkA a = 0 := by unfold checkA; rw [if_pos ⟨H1.out, H2.out⟩, if_neg hz]
        have Hr := Lib.hid hr
        clear hr
        go_wp2
        go_ret
        exact ⟨by rw [Hr.out]; rfl, hb4⟩
end Go.Proofs.YtokeblpdaomagaaDoor
