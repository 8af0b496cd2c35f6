/- The helpers word and Address of the statements: what they return. -/
import Derived.Test.YtokeblpdaomagaaDoorWhoPlain
import Derived.Test.YtokeblpdaomagaaDoorWhoPart
import Derived.Test.YtokeblpdaomagaaDoorFrozen
import Derived.Test.YtokeblpdaomagaaDoorPick
import Derived.OpenShut
import Derived.Deep.RegionWith
namespace Go.Proofs.YtokeblpdaomagaaDoor
open Go.RowKit

theorem byteW_nat (c : UInt8) : ((byteW c).toNat : Int) = 97 + (c.toNat : Int) % 26 := by
  have h : (byteW c).toNat = 97 + c.toNat % 26 := by
    unfold byteW
    rw [UInt8.toNat_add, UInt8.toNat_mod]
    have : c.toNat % 26 < 26 := Nat.mod_lt _ (by decide)
    simp
    omega
  rw [h]; omega
theorem info_u8 : (Tryd.prog.info? 5).map (fun i => (i.zero, i.size, i.bytes)) = some (some (.int .u8 0), 1, 1) := by kernel_rfl

set_option maxHeartbeats 2000000 in
set_option maxRecDepth 100000 in
theorem word_calls (s : ByteArray) (hs : s.size ≤ 9223372036854775807) (w : World) :
    Calls Tryd.prog 14 #[.string s] w fun e w' => e = .returned (.string (mkS (wordL (bs s)))) ∧ Below w.heap.size w w' := by
  obtain ⟨i0, hi, hz0, hz1, hz2⟩ := info_parts info_u8
  go_enter Tryd.func14, Tryd.ntmps14
  go_wp2
  go_loopw [3, 4] (fun v i wr => ∃ k : Nat, k ≤ s.size ∧ k ≤ 8 ∧ i = .int .i64 k ∧ wr.ownsRow w.heap.size 5 1 v (((bs s).take k).map byteW).length (u8s (((bs s).take k).map byteW)) ∧ Below w.heap.size w wr) (fun _ i _ => 8 - (intOf i).toNat)
  case atStart => exact ⟨0, Nat.zero_le _, Nat.zero_le _, rfl, World.ownsRow_nil _ _ _ _, Below.refl _ _⟩
  case round =>
    obtain ⟨k, hk, hk8, rfl, hrow, hb⟩ := hrel
    have hml : (((bs s).take k).map byteW).length = k := by rw [List.length_map, List.length_take, bs_len, Nat.min_eq_left hk]
    by_cases hlt : k < s.size ∧ k < 8
    · obtain ⟨hlt1, hlt2⟩ := hlt
      have Hml := Lib.hid hml
      have hlm : (((bs s).take k).map byteW).length ≤ k := Nat.le_of_eq hml
      clear hml
      have hbw := byteW_nat s[k]
      have hcs := s[k].toNat_lt
      have hnew : ((bs s).take (k + 1)).map byteW = ((bs s).take k).map byteW ++ [byteW s[k]] := by rw [take_snoc s k hlt1, List.map_append]; rfl
      have Hbw := Lib.hid hbw
      have Hnew := Lib.hid hnew
      clear hbw hnew
      go_wp2_with (at_builtin; refine wpList_append_own _ rfl _ _ 40 rfl w.heap.size 5 i0 (.int .u8 0) 1 1 Tryd.underlying40 hi hz0 hz1 hz2 rfl (by decide) _ _ _ rfl (hrow.alloc _) ⟨wr.heap.size, 0, none⟩ 1 1 [.int .u8 (97 + (s[k].toNat : Int) % 26)] rfl rfl (new_cells _ [.int .u8 (97 + (s[k].toNat : Int) % 26)] _) (by simp [Value.oneCell']) (by unfold maxLen; omega) (by omega) (by have := hb.size; simp; omega) ?_; intro v' w1 hown' hgrow _)
      go_roundw
      case rel => exact ⟨k + 1, by omega, by omega, by go_num, by rw [Hnew.out, u8s_append, List.length_append]; rw [← Hbw.out] at hown'; exact hown', below_append hb hb.size hrow hgrow⟩
      case measure => simp [intOf]; omega
    · have htk : (bs s).take k = (bs s).take 8 := by
        by_cases h8 : k = 8
        · rw [h8]
        · have hk2 : k = s.size := by omega
          rw [hk2, take_full, List.take_of_length_le (by rw [bs_len]; omega)]
      by_cases h0 : k = 0
      · subst h0
        have hse : s.size = 0 := by omega
        have hr : wordL (bs s) = [120] := by
          rw [List.length_eq_zero_iff.1 (show (bs s).length = 0 from hse)]; rfl
        have Hr := Lib.hid hr
        obtain ⟨g, c, rfl⟩ : ∃ g c, u3 = .slice g 0 c := by
          rcases hrow.2 with ⟨h, _⟩ | ⟨g, cap, cur, h, _⟩
          · exact ⟨_, _, h⟩
          · exact ⟨_, _, h⟩
        clear hr hml htk
        go_wp2
        go_ret
        exact ⟨by rw [Hr.out]; rfl, hb⟩
      · have hr : wordL (bs s) = ((bs s).take k).map byteW := by
          unfold wordL
          rw [if_neg (by intro h; have h2 : (bs s).length = 0 := by rw [h]; rfl
                         rw [bs_len] at h2; omega), htk]; rfl
        rw [← hr] at hrow
        have hconv := conv_own Tryd.underlying40 Tryd.underlying5 Tryd.underlying9 hrow
        have hlen : (wordL (bs s)).length ≠ 0 := by rw [hr, hml]; exact h0
        obtain ⟨g, c, rfl⟩ : ∃ g c, u3 = .slice g (wordL (bs s)).length c := by
          rcases hrow.2 with ⟨rfl, h⟩ | ⟨g, cap, cur, h, _⟩
          · exact absurd h hlen
          · exact ⟨_, _, h⟩
        have hne : (((wordL (bs s)).length : Int) == 0) = false := by rw [beq_eq_false_iff_ne]; omega
        clear hr hml htk hlen
        generalize hwl : wordL (bs s) = wl at *
        have Hwl := Lib.hid hwl
        clear hwl
        go_wp2
        all_goals
          go_ret
          exact ⟨by rw [Hwl.out]; rfl, hb⟩

/-- The address of a person's raw bytes. -/
def adrOf (l d : ByteArray) : Adr := ⟨mkS (wordL (bs l)), mkS (wordL (bs d)) ++ mkS [46, 111, 114, 103]⟩

/-- What lies in the two boxes of Address. -/
structure KeepA (W : World) (b : Nat) (l d : ByteArray) : Prop where
  k0 : W.cell? ⟨b, 0, none⟩ = some (.string l)
  k1 : W.cell? ⟨b, 1, none⟩ = some (.string d)
  k2 : ∃ v, W.cell? ⟨b + 1, 0, none⟩ = some v
  k3 : ∃ v, W.cell? ⟨b + 1, 1, none⟩ = some v
  f2 : W.frozen? ⟨b + 1, 0, none⟩ = false
  f3 : W.frozen? ⟨b + 1, 1, none⟩ = false
theorem KeepA.later {W W' : World} {b : Nat} {l d : ByteArray} (hb : Below W.heap.size W W') (h : KeepA W b l d) : KeepA W' b l d := by
  obtain ⟨k0, k1, ⟨v2, k2⟩, ⟨v3, k3⟩, f2, f3⟩ := h
  exact ⟨cell_later hb k0, cell_later hb k1, ⟨v2, cell_later hb k2⟩, ⟨v3, cell_later hb k3⟩, frozen_later hb k2 f2, frozen_later hb k3 f3⟩
theorem keepA_new (w : World) (l d x : ByteArray) : KeepA (((w.alloc (.cells #[.string l, .string d, .string x] 23)).alloc (.cells #[.string ⟨#[]⟩, .string ⟨#[]⟩] 28)).drew) w.heap.size l d := by
  generalize hA : w.alloc (.cells #[.string l, .string d, .string x] 23) = A
  have a0 : A.heap.size = w.heap.size + 1 := by rw [← hA]; simp
  have hb : Below A.heap.size A (A.alloc (.cells #[.string ⟨#[]⟩, .string ⟨#[]⟩] 28)).drew := ((Below.refl _ A).alloc (Nat.le_refl _) _).drew
  have q0 : A.cell? ⟨w.heap.size, 0, none⟩ = some (.string l) := by rw [← hA, World.cell?_alloc_at _ _ _ _ rfl]; rfl
  have q1 : A.cell? ⟨w.heap.size, 1, none⟩ = some (.string d) := by rw [← hA, World.cell?_alloc_at _ _ _ _ rfl]; rfl
  have q2 : (A.alloc (.cells #[.string ⟨#[]⟩, .string ⟨#[]⟩] 28)).cell? ⟨w.heap.size + 1, 0, none⟩ = some (.string ⟨#[]⟩) := by rw [World.cell?_alloc_at _ _ _ _ a0.symm]; rfl
  have q3 : (A.alloc (.cells #[.string ⟨#[]⟩, .string ⟨#[]⟩] 28)).cell? ⟨w.heap.size + 1, 1, none⟩ = some (.string ⟨#[]⟩) := by rw [World.cell?_alloc_at _ _ _ _ a0.symm]; rfl
  have q4 := World.frozen?_alloc_new A #[.string ⟨#[]⟩, .string ⟨#[]⟩] 28 0
  have q5 := World.frozen?_alloc_new A #[.string ⟨#[]⟩, .string ⟨#[]⟩] 28 1
  rw [a0] at q4 q5
  exact ⟨cell_later hb q0, cell_later hb q1, ⟨_, q2⟩, ⟨_, q3⟩, q4, q5⟩
theorem word_keepA (s l d : ByteArray) (b n : Nat) (w0 W : World) (hs : s.size ≤ 9223372036854775807) (hK : KeepA W b l d) (hn : n ≤ W.heap.size) (hD : Below n w0 W) :
    Calls Tryd.prog 14 #[.string s] W fun e w' => e = .returned (.string (mkS (wordL (bs s)))) ∧ KeepA w' b l d ∧ n ≤ w'.heap.size ∧ Below n w0 w' :=
  (word_calls s hs W).mono fun _ _ ⟨he, hb⟩ => ⟨he, KeepA.later hb hK, Nat.le_trans hn hb.size, hD.trans (hb.mono hn)⟩

set_option maxRecDepth 100000 in
set_option maxHeartbeats 2000000 in
theorem address_calls (l d x : ByteArray) (hl : l.size ≤ 9223372036854775807) (hd : d.size ≤ 9223372036854775807) (w : World) :
    Calls Tryd.prog 9 #[.agg #[.string l, .string d, .string x]] w fun e w' => e = .returned (adrVal (adrOf l d)) ∧ Below w.heap.size w w' := by
  go_enter Tryd.func9, Tryd.ntmps9
  have hb0 : Below w.heap.size w ((w.alloc (.cells #[.string l, .string d, .string x] 23)).alloc (.cells #[.string ⟨#[]⟩, .string ⟨#[]⟩] 28)) := ((Below.refl _ w).alloc (Nat.le_refl _) _).alloc (by simp) _
  have hs1 := wordL_len (bs l)
  have hs2 := wordL_len (bs d)
  have hsz : (mkS (wordL (bs d))).size + 4 ≤ 12 := by rw [mkS_size]; omega
  clear hs1 hs2
  have C := Lib.hid (keepA_new w l d x)
  have B := Lib.hid hb0.drew
  clear hb0
  go_wp2
  go_region_with (go_at_call 14; (first
    | (with_reducible refine (word_keepA l l d w.heap.size w.heap.size w _ hl C.out (by simp; omega) B.out).mono ?_)
    | (with_reducible refine (word_keepA d l d w.heap.size w.heap.size w _ hd C.out (by simp; omega) B.out).mono ?_)
    | (with_reducible refine (word_keepA l l d w.heap.size w.heap.size w _ hl C2.out (by assumption) B2.out).mono ?_)
    | (with_reducible refine (word_keepA d l d w.heap.size w.heap.size w _ hd C2.out (by assumption) B2.out).mono ?_)); rintro e w9 ⟨rfl, hK, hn, hD⟩; (try clear C2 B2); have C2 := Lib.hid hK; have B2 := Lib.hid hD; clear hD; obtain ⟨k0, k1, ⟨v2, k2⟩, ⟨v3, k3⟩, f2, f3⟩ := hK)
  all_goals
    have hb1 := (B2.out.setCell (p := ⟨w.heap.size + 1, 0, none⟩) (Nat.le_succ _) (.string (mkS (wordL (bs l))))).setCell (p := ⟨w.heap.size + 1, 1, none⟩) (Nat.le_succ _) (.string (mkS (wordL (bs d)) ++ mkS [46, 111, 114, 103]))
    have Hb1 := Lib.hid hb1
    clear hb1
    go_wp2
    exact bodyPost_ret (v := adrVal (adrOf l d)) (by simp [results, Tryd.results9, go_sem, adrVal, adrOf, mkS, k2, k3]) rfl ⟨rfl, Hb1.out⟩

theorem adrOf_dom (l d : ByteArray) : bs (adrOf l d).dom = orgL (bs d) := by
  show bs (mkS _ ++ mkS _) = _
  rw [bs_append, bs_mkS, bs_mkS]; rfl
theorem adrOf_loc (l d : ByteArray) : bs (adrOf l d).loc = wordL (bs l) := rfl
theorem adrOf_size (l d : ByteArray) : 1 ≤ (adrOf l d).loc.size ∧ (adrOf l d).loc.size ≤ 8 ∧ 5 ≤ (adrOf l d).dom.size ∧ (adrOf l d).dom.size ≤ 12 := by
  have h1 := wordL_len (bs l)
  have h2 := wordL_len (bs d)
  have e1 : (adrOf l d).loc.size = (wordL (bs l)).length := by rw [← bs_len, adrOf_loc]
  have e2 : (adrOf l d).dom.size = (wordL (bs d)).length + 4 := by rw [← bs_len, adrOf_dom, orgL, List.length_append]; rfl
  omega
theorem adrOf_check (l d : ByteArray) : checkA (adrOf l d) = 0 := by
  have h := adrOf_size l d
  unfold checkA
  rw [if_pos ⟨by rw [adrOf_loc]; exact dotted_word _, by rw [adrOf_dom]; exact dotted_org _⟩, if_neg (by omega)]
end Go.Proofs.YtokeblpdaomagaaDoor
