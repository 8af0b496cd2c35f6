/- Flags of two lists together are those of both: for every two lists of whole numbers. -/
import Derived.Test.YtnkfgdgjjigabaaDoorFlags
import Derived.Test.YtnkfgdgjjigabaaDoorRows2
namespace Go.Proofs.YtnkfgdgjjigabaaDoor
open Go.RowKit

theorem info_str : (Tryd.prog.info? 9).map (fun i => (i.zero, i.size, i.bytes)) = some (some (.string ByteArray.empty), 1, 16) := by kernel_rfl
/-- The names at these places. -/
def nameAt (n : Int) : ByteArray := namesB.getD (pickN n 5) ByteArray.empty
def strV (l : List ByteArray) : List Value := l.map fun s => Value.string s

theorem idx_nameAt (n : Int) : Lib.idxOfS namesB (nameAt n) = (pickN n 5 : Nat) := by
  have h := pickN_lt n 5 (by decide)
  unfold nameAt
  generalize pickN n 5 = p at h
  match p, h with
  | 0, _ => decide
  | 1, _ => decide
  | 2, _ => decide
  | 3, _ => decide
  | 4, _ => decide
def orN (a : Nat) (ps : List Int) : Nat := ps.foldl (fun a p => a ||| 2 ^ pickN p 5) a
theorem flagsF_names (ps : List Int) : ∀ a, flagsF a (ps.map nameAt) = (orN a ps, 0) := by
  induction ps with
  | nil => exact fun _ => rfl
  | cons p ps ih =>
    intro a
    rw [List.map_cons, flagsF, idx_nameAt, if_neg (by omega), Int.toNat_natCast, ih]
    rfl
theorem orN_lt (ps : List Int) : ∀ a, a < 32 → orN a ps < 32 := by
  induction ps with
  | nil => exact fun _ h => h
  | cons p ps ih =>
    intro a h
    exact ih _ (or_lt32 a _ h (by have := pickN_lt p 5 (by decide); omega))
theorem orN_or (ps : List Int) : ∀ a, orN a ps = a ||| orN 0 ps := by
  induction ps with
  | nil => intro a; exact (Nat.or_zero a).symm
  | cons p ps ih =>
    intro a
    show orN (a ||| 2 ^ pickN p 5) ps = a ||| orN (0 ||| 2 ^ pickN p 5) ps
    rw [ih, ih (0 ||| _), Nat.zero_or, Nat.or_assoc]
theorem orN_append (ps qs : List Int) : orN 0 (ps ++ qs) = orN 0 ps ||| orN 0 qs := by
  unfold orN
  rw [List.foldl_append]
  exact orN_or qs _
theorem or_bits2 (a b : Nat) (ha : a < 32) (hb : b < 32) : bits BinOp.or IntKind.i64 (a : Int) (b : Int) = ((a ||| b : Nat) : Int) := by
  have h : ∀ x : Fin 32, ∀ y : Fin 32, bits BinOp.or IntKind.i64 ((x.val : Nat) : Int) ((y.val : Nat) : Int) = ((x.val ||| y.val : Nat) : Int) := by decide +kernel
  exact h ⟨a, ha⟩ ⟨b, hb⟩
theorem strsAt_own {w : World} {base e : Nat} {v : Value} {l : List ByteArray} (h : w.ownsRow base e 1 v l.length (strV l)) : ∃ A c, v = .slice A l.length c ∧ StrsAt w A l := by
  rcases ownsRow_at h with ⟨rfl, h2⟩ | ⟨g, cap, rfl, _, h3⟩
  · have : l = [] := by
      cases l with
      | nil => rfl
      | cons a l => cases h2
    subst this
    exact ⟨none, 0, rfl, .inl rfl⟩
  · refine ⟨_, cap, rfl, .inr ⟨g, 0, rfl, fun j hj => h3 j _ ?_⟩⟩
    rw [strV, List.getElem?_map, List.getD_eq_getElem?_getD, List.getElem?_eq_getElem hj]; rfl
theorem ownsRow_later {w w' : World} {base e n : Nat} {v : Value} {xs : List Value} (hb : Below w.heap.size w w') (h : w.ownsRow base e 1 v n xs) : w'.ownsRow base e 1 v n xs := by
  refine ⟨h.1, ?_⟩
  rcases h.2 with hn | ⟨g, cap, cur, rfl, h1, h2, rest⟩
  · exact .inl hn
  · exact .inr ⟨g, cap, cur, rfl, h1, (hb.block g (Array.getElem?_eq_some_iff.1 h2).1).trans h2, rest⟩

/-- The names, in a box of one's own. -/
def NamesIn (w : World) (b : Nat) : Prop := ∀ i, i < namesB.length → w.cell? ⟨b, 0 + i, none⟩ = some (.string (namesB.getD i ByteArray.empty))
set_option maxRecDepth 100000 in
set_option maxHeartbeats 4000000 in
theorem flagsBoth_walk (xs : List Int) (A : Option Addr) (c : Nat) (ys : List Int) (B : Option Addr) (d : Nat) (w : World) (hx : xs.length ≤ 9223372036854775807) (hA : (Rk.int .i64).Row w A xs) (hy : ys.length ≤ 9223372036854775807) (hB : (Rk.int .i64).Row w B ys) (hN : NamesAt w) :
    Calls Tryd.prog 3 #[.slice A xs.length c, .slice B ys.length d] w fun e w' => e = .returned (.bool true) ∧ Below w.heap.size w w' := by
  obtain ⟨i0, hi, hz0, hz1, hz2⟩ := info_parts info_str
  go_enter Tryd.func3, Tryd.ntmps3
  go_wp2_with fail
  have hall : ∀ i, i < 5 → (w.alloc (.cells #[.string (namesB.getD 0 ByteArray.empty), .string (namesB.getD 1 ByteArray.empty), .string (namesB.getD 2 ByteArray.empty), .string (namesB.getD 3 ByteArray.empty), .string (namesB.getD 4 ByteArray.empty)] 9)).cell? ⟨w.heap.size, i, none⟩ = some (.string (namesB.getD i ByteArray.empty)) := by
    intro i hi
    rw [World.cell?_alloc_at _ _ _ _ rfl]
    match i, hi with
    | 0, _ => rfl
    | 1, _ => rfl
    | 2, _ => rfl
    | 3, _ => rfl
    | 4, _ => rfl
  have hb0 : Below w.heap.size w (w.alloc (.cells #[.string (namesB.getD 0 ByteArray.empty), .string (namesB.getD 1 ByteArray.empty), .string (namesB.getD 2 ByteArray.empty), .string (namesB.getD 3 ByteArray.empty), .string (namesB.getD 4 ByteArray.empty)] 9)) := (Below.refl _ w).alloc (Nat.le_refl _) _
  change Code.wp _ _ _ _ (w.alloc (.cells #[.string (namesB.getD 0 ByteArray.empty), .string (namesB.getD 1 ByteArray.empty), .string (namesB.getD 2 ByteArray.empty), .string (namesB.getD 3 ByteArray.empty), .string (namesB.getD 4 ByteArray.empty)] 9))
  have hsz : (w.alloc (.cells #[.string (namesB.getD 0 ByteArray.empty), .string (namesB.getD 1 ByteArray.empty), .string (namesB.getD 2 ByteArray.empty), .string (namesB.getD 3 ByteArray.empty), .string (namesB.getD 4 ByteArray.empty)] 9)).heap.size = w.heap.size + 1 := by simp
  generalize w.alloc (.cells #[.string (namesB.getD 0 ByteArray.empty), .string (namesB.getD 1 ByteArray.empty), .string (namesB.getD 2 ByteArray.empty), .string (namesB.getD 3 ByteArray.empty), .string (namesB.getD 4 ByteArray.empty)] 9) = w1 at *
  have hA1 := hA.later hb0
  have hB1 := hB.later hb0
  have hN1 := hN.later hb0
  clear hA hB hN
  go_loopw [6, 8] (fun v i wr => ∃ k : Nat, k ≤ xs.length ∧ k ≤ 6 ∧ i = .int .i64 k ∧ wr.ownsRow w1.heap.size 9 1 v k (strV ((xs.take k).map nameAt)) ∧ Below w1.heap.size w1 wr) (fun _ i _ => 6 - (intOf i).toNat)
  case atStart => exact ⟨0, Nat.zero_le _, Nat.zero_le _, rfl, World.ownsRow_nil _ _ _ _, Below.refl _ _⟩
  case round =>
    obtain ⟨k, hk, hk6, rfl, hrow, hb⟩ := hrel
    by_cases hlt : k < xs.length ∧ k < 6
    · obtain ⟨hlt1, hlt2⟩ := hlt
      obtain ⟨bA, oA, rfl, cs, ⟨rfl, hwf⟩, hcell⟩ := (hA1.later hb).get k hlt1
      have ck := hcell 0 _ rfl
      have e1 : oA + (k * (Rk.int .i64).sz + 0) = oA + k := by show oA + (k * 1 + 0) = _; omega
      rw [e1] at ck
      generalize hz : xs[k] = z at ck hwf
      have hp := pickN_lt z 5 (by omega)
      have hallk := cell_after hb (hall (pickN z 5) (by omega))
      have hnew : (xs.take (k + 1)).map nameAt = (xs.take k).map nameAt ++ [namesB.getD (pickN z 5) ByteArray.empty] := by
        rw [List.take_succ_eq_append_getElem hlt1, hz, List.map_append]; rfl
      have Hnew := Lib.hid hnew
      clear hnew hz hcell
      go_wp2_with fail
      refine (picked_calls z 5 _ hwf (by decide) (by decide)).mono ?_
      rintro e w' ⟨rfl, rfl⟩
      go_wp2_with (at_builtin; refine wpList_append_own _ rfl _ _ 23 rfl w1.heap.size 9 i0 (.string ByteArray.empty) 1 16 Tryd.underlying23 hi hz0 hz1 hz2 rfl (by decide) _ _ _ rfl (hrow.alloc _) ⟨wr.heap.size, 0, none⟩ 1 1 [.string (namesB.getD (pickN z 5) ByteArray.empty)] rfl rfl (new_cells _ [.string (namesB.getD (pickN z 5) ByteArray.empty)] _) (by simp [Value.oneCell']) (by unfold maxLen; omega) (by omega) (by have := hb.size; simp; omega) ?_; intro v' w2 hown' hgrow _)
      go_roundw
      case rel => exact ⟨k + 1, by omega, by omega, by go_num, by rw [Hnew.out, strV, List.map_append]; exact hown', below_append hb hb.size hrow hgrow⟩
      case measure => simp [intOf]; omega
    · have hend : k = ((xs.take 6).map nameAt).length ∧ xs.take k = xs.take 6 := by
        rw [List.length_map, List.length_take]
        by_cases h6 : k = 6
        · subst h6; exact ⟨by omega, rfl⟩
        · have : k = xs.length := by omega
          exact ⟨by omega, by rw [List.take_of_length_le (by omega), List.take_of_length_le (by omega)]⟩
      obtain ⟨hk1, hk2⟩ := hend
      rw [hk2, hk1] at hrow
      have hXl : ((xs.take 6).map nameAt).length ≤ 6 := by omega
      have hcase : (¬ k < xs.length) ∨ (k < xs.length ∧ ¬ k < 6) := by omega
      clear hk1 hk2
      obtain ⟨X, hX⟩ : ∃ X, (xs.take 6).map nameAt = X := ⟨_, rfl⟩
      rw [hX] at hrow hXl
      have HX := Lib.hid hX
      have hB2 := hB1.later hb
      have hN2 := hN1.later hb
      have hallw : ∀ i, i < 5 → wr.cell? ⟨w.heap.size, i, none⟩ = some (.string (namesB.getD i ByteArray.empty)) := fun i hi => cell_after hb (hall i hi)
      have hb2 := hb0.trans (hb.mono (by omega))
      have Hb2 := Lib.hid hb2
      have hsz2 := hb2.size
      clear hX hA1 hB1 hN1 hb hall hb2 hb0 hsz hlt
      obtain h1 | ⟨h1, h2⟩ := hcase
      all_goals
        go_wp2_with fail
        clear h1
        try clear h2
        obtain ⟨AX, cX, rfl, hSX⟩ := strsAt_own hrow
        generalize wr = wq at *
        go_loopw [7, 9] (fun v i w2 => ∃ q : Nat, q ≤ ys.length ∧ q ≤ 6 ∧ i = .int .i64 q ∧ w2.ownsRow wq.heap.size 9 1 v q (strV ((ys.take q).map nameAt)) ∧ Below wq.heap.size wq w2) (fun _ i _ => 6 - (intOf i).toNat)
        case atStart => exact ⟨0, Nat.zero_le _, Nat.zero_le _, rfl, World.ownsRow_nil _ _ _ _, Below.refl _ _⟩
        case round =>
          obtain ⟨q, hq, hq6, rfl, hrow2, hb⟩ := hrel
          by_cases hlt : q < ys.length ∧ q < 6
          · obtain ⟨hlt1, hlt2⟩ := hlt
            obtain ⟨bB, oB, rfl, cs, ⟨rfl, hwf⟩, hcell⟩ := (hB2.later hb).get q hlt1
            have ck := hcell 0 _ rfl
            have e1 : oB + (q * (Rk.int .i64).sz + 0) = oB + q := by show oB + (q * 1 + 0) = _; omega
            rw [e1] at ck
            generalize hz : ys[q] = z at ck hwf
            have hp := pickN_lt z 5 (by omega)
            have hallk := cell_after hb (hallw (pickN z 5) (by omega))
            have hnew : (ys.take (q + 1)).map nameAt = (ys.take q).map nameAt ++ [namesB.getD (pickN z 5) ByteArray.empty] := by
              rw [List.take_succ_eq_append_getElem hlt1, hz, List.map_append]; rfl
            have Hnew := Lib.hid hnew
            clear hnew hz hcell
            go_wp2_with fail
            refine (picked_calls z 5 _ hwf (by decide) (by decide)).mono ?_
            rintro e w' ⟨rfl, rfl⟩
            go_wp2_with (at_builtin; refine wpList_append_own _ rfl _ _ 23 rfl wq.heap.size 9 i0 (.string ByteArray.empty) 1 16 Tryd.underlying23 hi hz0 hz1 hz2 rfl (by decide) _ _ _ rfl (hrow2.alloc _) ⟨wr.heap.size, 0, none⟩ 1 1 [.string (namesB.getD (pickN z 5) ByteArray.empty)] rfl rfl (new_cells _ [.string (namesB.getD (pickN z 5) ByteArray.empty)] _) (by simp [Value.oneCell']) (by unfold maxLen; omega) (by omega) (by have := hb.size; simp; omega) ?_; intro v' w2 hown' hgrow _)
            go_roundw
            case rel => exact ⟨q + 1, by omega, by omega, by go_num, by rw [Hnew.out, strV, List.map_append]; exact hown', below_append hb hb.size hrow2 hgrow⟩
            case measure => simp [intOf]; omega
          · have hend : q = ((ys.take 6).map nameAt).length ∧ ys.take q = ys.take 6 := by
              rw [List.length_map, List.length_take]
              by_cases h6 : q = 6
              · subst h6; exact ⟨by omega, rfl⟩
              · have : q = ys.length := by omega
                exact ⟨by omega, by rw [List.take_of_length_le (by omega), List.take_of_length_le (by omega)]⟩
            obtain ⟨hk1, hk2⟩ := hend
            rw [hk2, hk1] at hrow2
            have hYl : ((ys.take 6).map nameAt).length ≤ 6 := by omega
            have hcase : (¬ q < ys.length) ∨ (q < ys.length ∧ ¬ q < 6) := by omega
            clear hk1 hk2
            obtain ⟨Y, hY⟩ : ∃ Y, (ys.take 6).map nameAt = Y := ⟨_, rfl⟩
            rw [hY] at hrow2 hYl
            have HY := Lib.hid hY
            have hN3 := hN2.later hb
            have hall3 : NamesIn wr w.heap.size := fun i hi => by have := cell_after hb (hallw i hi); rw [Nat.zero_add]; exact this
            have hrow1 := ownsRow_later hb hrow
            have hSX3 := hSX.later hb
            have hb3 := Hb2.out.trans (hb.mono (by omega))
            have Hb3 := Lib.hid hb3
            have hsz3 := hb3.size
            clear hY hB2 hN2 hrow hSX hb hallw hb3 Hb2 hlt
            obtain h1 | ⟨h1, h2⟩ := hcase
            all_goals
              obtain ⟨AY, cY, rfl, hSY3⟩ := strsAt_own hrow2
              go_wp2_with fail
              try clear h2
              clear h1
              have fX : flagsF 0 X = (orN 0 (xs.take 6), 0) := by rw [← HX.out]; exact flagsF_names _ 0
              have fY : flagsF 0 Y = (orN 0 (ys.take 6), 0) := by rw [← HY.out]; exact flagsF_names _ 0
              have fXY : flagsF 0 (X ++ Y) = (orN 0 (xs.take 6) ||| orN 0 (ys.take 6), 0) := by
                rw [← HX.out, ← HY.out, ← List.map_append, flagsF_names, orN_append]
              have bX := orN_lt (xs.take 6) 0 (by decide)
              have bY := orN_lt (ys.take 6) 0 (by decide)
              have hor := or_bits2 _ _ bX bY
              generalize orN 0 (xs.take 6) = mX at fX fXY bX hor
              generalize orN 0 (ys.take 6) = mY at fY fXY bY hor
              have HfX := Lib.hid fX
              have HfY := Lib.hid fY
              have HfXY := Lib.hid fXY
              clear fX fY fXY
              refine (flags_any AX cX X _ (by omega) hN3 hSX3).mono ?_
              rintro e w' ⟨rfl, rfl⟩
              rw [HfX.out]
              go_wp2_with fail
              refine (flags_any AY cY Y _ (by omega) hN3 hSY3).mono ?_
              rintro e w' ⟨rfl, rfl⟩
              rw [HfY.out]
              generalize w' = W0 at *
              have ones : ∀ l : List ByteArray, ∀ u ∈ strV l, u.oneCell' = true := fun l u hu => by
                obtain ⟨_, _, rfl⟩ := List.mem_map.1 hu; rfl
              go_wp2_with (at_builtin; first
                | (refine wpList_append_rows rfl _ _ 23 rfl W0.heap.size w1.heap.size 9 i0 (.string ByteArray.empty) 16 Tryd.underlying23 hi hz0 hz1 hz2 rfl _ 0 [] rfl (World.ownsRow_nil _ _ _ _) (.slice AX X.length cX) X.length (strV X) rfl hrow1 (ones _) (by unfold maxLen; omega) (by omega) (Nat.le_refl _) ?_; intro v1 w5 hown1 hgrow1; have hg1 : W0.grownBy w5 none := hgrow1; clear hgrow1)
                | (refine wpList_append_rows rfl _ _ 23 rfl W0.heap.size wq.heap.size 9 i0 (.string ByteArray.empty) 16 Tryd.underlying23 hi hz0 hz1 hz2 rfl v1 (0 + X.length) ([] ++ strV X) rfl hown1 (.slice AY Y.length cY) Y.length (strV Y) rfl (hrow2.kept hg1 (by cases AY <;> simp [Value.ownBlock])) (ones _) (by unfold maxLen; omega) (by omega) hg1.size ?_; intro v2 w6 hown2 hgrow2))
              have hb5 := (Below.refl W0.heap.size W0).grown hg1 (Nat.le_refl _) (fun k e => by cases e)
              have hb6 := hb5.grown hgrow2 hb5.size (fun k e => own_base' hown1 k e)
              have hXY : w6.ownsRow W0.heap.size 9 1 v2 (X ++ Y).length (strV (X ++ Y)) := by
                have h := hown2
                rw [Nat.zero_add, List.nil_append] at h
                rw [List.length_append, strV, List.map_append]; exact h
              obtain ⟨AZ, cZ, rfl, hSZ⟩ := strsAt_own hXY
              have hN6 := hN3.later hb6
              have hall6 : NamesIn w6 w.heap.size := fun i hi => cell_after hb6 (hall3 i hi)
              have Hb6 := Lib.hid (Hb3.out.trans (hb6.mono (by omega)))
              clear hXY hown2 hown1 hgrow2 hg1 hb5 hb6 hN3 hall3 hrow1 hrow2 hSX3 hSY3 ones
              refine (flags_any AZ cZ (X ++ Y) _ (by rw [List.length_append]; omega) hN6 hSZ).mono ?_
              rintro e w' ⟨rfl, rfl⟩
              rw [HfXY.out]
              go_wp2_with fail
              refine (flags_any _ _ namesB _ (by decide) hN6 (.inr ⟨_, _, rfl, hall6⟩)).mono ?_
              rintro e w' ⟨rfl, rfl⟩
              rw [show flagsF 0 namesB = (31, 0) by decide]
              go_wp2
              go_ret
              exact ⟨rfl, Hb6.out⟩
end Go.Proofs.YtnkfgdgjjigabaaDoor
