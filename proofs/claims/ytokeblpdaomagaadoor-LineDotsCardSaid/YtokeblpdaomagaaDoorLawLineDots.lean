/- Of the dots at a line's beginning one is taken away; a dot alone is the end. -/
import Derived.Test.YtokeblpdaomagaaDoorLmWords
import Derived.Test.YtokeblpdaomagaaDoorLmReady
import Derived.Test.YtokeblpdaomagaaDoorLmDot
import Derived.Laws.OwnMore
namespace Go.Proofs.YtokeblpdaomagaaDoor
open Go.RowKit
set_option linter.unusedVariables false

theorem word_ge (l : List UInt8) : ∀ c ∈ wordL l, 97 ≤ c := by
  intro c hc
  unfold wordL at hc
  split at hc
  · simp only [List.mem_singleton] at hc
    subst hc; decide
  · obtain ⟨b, _, rfl⟩ := List.mem_map.1 hc
    have : ∀ i : Fin 256, (97 : UInt8) ≤ 97 + (UInt8.ofNat i) % 26 := by decide +kernel
    have h := this ⟨b.toNat, UInt8.toNat_lt b⟩
    simpa using h
theorem word_len (l : List UInt8) : 1 ≤ (wordL l).length ∧ (wordL l).length ≤ 8 := by
  unfold wordL
  split
  · exact ⟨by decide, by decide⟩
  · next h =>
    rw [List.length_map, List.length_take]
    have := List.length_pos_iff.2 h
    omega
def dotsS (k : Nat) : ByteArray := mkS (List.replicate k 46)
theorem dotsS_size (k : Nat) : (dotsS k).size = k := by rw [dotsS, mkS_size, List.length_replicate]
theorem dotsS_succ (k : Nat) : dotsS k ++ ⟨#[46]⟩ = dotsS (k + 1) := by
  apply bs_inj
  rw [bs_append, dotsS, dotsS, bs_mkS, bs_mkS, List.replicate_succ']
  rfl
/-- What of a line is kept. -/
def wantS (k : Nat) (line : ByteArray) : ByteArray := if 0 < k then line.extract 1 line.size else line
theorem dots_line (a b : Adr) (k : Nat) (hk : k < 20) (l : List UInt8) (K : List ByteArray) :
    lineR (rdyS a b 4) K (dotsS k ++ mkS (wordL l)) = (⟨4, a, [b], wantS k (dotsS k ++ mkS (wordL l)) ++ ⟨#[13, 10]⟩, false⟩, 0, false) ∧ (dotsS k ++ mkS (wordL l)).size ≤ 30 ∧ dotsS k ++ mkS (wordL l) ≠ dotS1 ∧ 1 ≤ (dotsS k ++ mkS (wordL l)).size := by
  have hg := word_ge l
  have hl := word_len l
  generalize wordL l = wl at *
  obtain ⟨c, wl', rfl⟩ : ∃ c wl', wl = c :: wl' := by
    cases wl with
    | nil => simp at hl
    | cons c wl' => exact ⟨c, wl', rfl⟩
  have hc : 97 ≤ c := hg c (by simp)
  have hsz : (dotsS k ++ mkS (c :: wl')).size = k + (wl'.length + 1) := by
    rw [ByteArray.size_append, dotsS_size, mkS_size, List.length_cons]
  have hbs : bs (dotsS k ++ mkS (c :: wl')) = List.replicate k 46 ++ (c :: wl') := by
    rw [bs_append, dotsS, bs_mkS, bs_mkS]
  have hc46 : c ≠ 46 := fun h => by rw [h] at hc; exact absurd hc (by decide)
  have hne : dotsS k ++ mkS (c :: wl') ≠ dotS1 := by
    intro h
    have h1 := congrArg bs h
    rw [hbs] at h1
    have h2 : bs dotS1 = [46] := rfl
    rw [h2] at h1
    cases k with
    | zero => exact hc46 (List.cons.inj h1).1
    | succ k =>
      rw [List.replicate_succ, List.cons_append] at h1
      have h3 := (List.cons.inj h1).2
      simp at h3
  have hu : undot (dotsS k ++ mkS (c :: wl')) = wantS k (dotsS k ++ mkS (c :: wl')) := by
    unfold undot wantS
    rw [toList_bs, hbs]
    cases k with
    | zero =>
      rw [if_neg (by show ¬ (some c = some 46); simpa using hc46), if_neg (by decide)]
    | succ k =>
      rw [List.replicate_succ, if_pos (by rfl), if_pos (by omega)]
  have hws : (wantS k (dotsS k ++ mkS (c :: wl'))).size ≤ 30 := by
    unfold wantS
    split
    · rw [ByteArray.size_extract]; simp only [List.length_cons] at hl; omega
    · simp only [List.length_cons] at hl; omega
  simp only [List.length_cons] at hl
  refine ⟨?_, by omega, hne, by omega⟩
  unfold lineR
  rw [if_neg (by show ¬ ((4 : Int) = 5); decide), if_neg (by show ¬ ((4 : Int) ≠ 4); decide), if_pos hne]
  unfold bodyR
  rw [hu, if_neg]
  · show (Ses.mk 4 a [b] ((⟨#[]⟩ : ByteArray) ++ (wantS k (dotsS k ++ mkS (c :: wl')) ++ ⟨#[13, 10]⟩)) false, (0 : Int), false) = _
    have he : ((⟨#[]⟩ : ByteArray) ++ (wantS k (dotsS k ++ mkS (c :: wl')) ++ ⟨#[13, 10]⟩)) = wantS k (dotsS k ++ mkS (c :: wl')) ++ ⟨#[13, 10]⟩ := by
      apply bs_inj
      rw [bs_append]
      rfl
    rw [he]
  · show ¬ (false = true ∨ 2000 < 0 + (wantS k (dotsS k ++ mkS (c :: wl'))).size + 2)
    rintro (h | h)
    · cases h
    · omega
theorem wantS_size (k : Nat) (line : ByteArray) : (wantS k line).size ≤ line.size := by
  unfold wantS
  split
  · rw [ByteArray.size_extract]; omega
  · omega
set_option maxRecDepth 100000 in
set_option maxHeartbeats 8000000 in
theorem lineDots_walk (p : Post) (PA : Option Addr) (pc : Nat) (n : Int) (s : ByteArray) (m : Int) (w : World) (hp : PostOk w p PA pc) (hn : (Lit.int .i64 n).wf = true) (hs : s.size ≤ 9223372036854775807) (hm : w.cell? ⟨0, 0, none⟩ = some (.int .i64 m)) :
    Calls Tryd.prog 7 #[.agg (postCells p PA pc).toArray, .int .i64 n, .string s] w fun e w' => e = .returned (.bool true) ∧ Below w.heap.size w w' := by
  have hb1 : Below w.heap.size w (w.alloc (.cells (postCells p PA pc).toArray 26)) := bal (Below.refl _ w) _
  have hrd := ready_calls p PA pc m _ (hp.later hb1) (cell_later hb1 hm)
  have Hm := Lib.hid hm
  have Hb1 := Lib.hid hb1
  have Hrd := Lib.hid hrd
  have hvd := vld_rdy p.frm.loc p.frm.dom p.rcv.loc p.rcv.dom 4 (by omega)
  have hk := pickN_lt n 20 (by decide)
  have hkn : pickN n 20 < 20 := by omega
  have hpk := fun W => picked_calls n 20 W hn (by decide) (by decide)
  clear hb1 hm hp hrd
  generalize adrOf p.frm.loc p.frm.dom = a at *
  generalize adrOf p.rcv.loc p.rcv.dom = b at *
  generalize pickN n 20 = k at *
  obtain ⟨hln, hls, hnd, hl1⟩ := dots_line a b k hkn (bs s) []
  have hvy := vld_line hvd [] (dotsS k ++ mkS (wordL (bs s)))
  rw [hln] at hvy
  have hwz := wantS_size k (dotsS k ++ mkS (wordL (bs s)))
  have Hln := Lib.hid hln
  have Hvy := Lib.hid hvy
  have Hvd := Lib.hid hvd
  have Hpk := Lib.hid hpk
  have Hnd := Lib.hid hnd
  have hwl := word_len (bs s)
  have hws : (mkS (wordL (bs s))).size ≤ 8 := by rw [mkS_size]; exact hwl.2
  have hk0 : (0 : Int) ≤ (k : Int) := by omega
  clear hln hvy hvd hpk hnd hwl
  simp only [postCells] at Hb1 Hrd ⊢
  go_enter Tryd.func7, Tryd.ntmps7
  go_wp2_with fail
  generalize w.alloc (.cells #[.string p.frm.loc, .string p.frm.dom, .string p.frm.words, .string p.rcv.loc, .string p.rcv.dom, .string p.rcv.words, .slice PA p.lines.length pc, .string p.body] 26) = w1 at *
  refine Hrd.out.mono ?_
  rintro e w2 ⟨A, c, rfl, ho2, hb2⟩
  have Hb2 := Lib.hid (btr Hb1.out hb2)
  have Ho2 := Lib.hid ho2
  clear ho2 hb2 Hrd
  dsimp only [sesVal, rdyS]
  have hS0 := Bk.new w2 [.int .i64 4, .string a.loc, .string a.dom, .slice A 1 c, .string ⟨#[]⟩, .bool false] 33
  have hal : Below w2.heap.size w2 (w2.alloc (.cells #[.int .i64 4, .string a.loc, .string a.dom, .slice A 1 c, .string ⟨#[]⟩, .bool false] 33)) := bal (Below.refl _ _) _
  have HS0 := Lib.hid hS0
  have Hal := Lib.hid hal
  clear hS0 hal
  go_upto_region 2 with fail
  generalize w2.alloc (.cells #[.int .i64 4, .string a.loc, .string a.dom, .slice A 1 c, .string ⟨#[]⟩, .bool false] 33) = w3 at *
  have hsA : SesAt w3 w2.heap.size (rdyS a b 4) A c := ⟨HS0.out, row_later Hal.out Ho2.out⟩
  have Hb3 := Lib.hid (btr Hb2.out Hal.out)
  have hsb := Hb2.out.size
  have HsA := Lib.hid hsA
  clear hsA HS0 Ho2 Hal Hb2
  generalize w2.heap.size = sb at *
  go_wp2_with fail
  refine (Hpk.out w3).mono ?_
  rintro e w' ⟨rfl, rfl⟩
  go_wp2_with fail
  go_loopw [10, 11] (fun v i wr => ∃ j : Nat, j ≤ k ∧ i = .int .i64 j ∧ v = .string (dotsS j) ∧ Hid (wr = w3)) (fun _ i _ => k - (intOf i).toNat)
  case atStart => exact ⟨0, Nat.zero_le _, rfl, rfl, Lib.hid rfl⟩
  case round =>
    obtain ⟨j, hj, rfl, rfl, Hw⟩ := hrel
    have hjs := dotsS_size j
    by_cases hlt : j < k
    · have hj0 : (0 : Int) ≤ (j : Int) := by omega
      have hjk : (j : Int) < (k : Int) := by omega
      have hsu := dotsS_succ j
      have Hsu := Lib.hid hsu
      clear hsu
      go_wp2_with fail
      go_roundw
      case rel => exact ⟨j + 1, by omega, by go_num, by rw [← Hsu.out], Hw⟩
      case measure => simp [intOf]; omega
    · obtain rfl : j = k := by omega
      obtain rfl := Hw.out
      clear hlt Hw hj
      go_wp2_with fail
      refine (word_calls s hs _).mono ?_
      rintro e w4 ⟨rfl, hb4⟩
      have Hb4 := Lib.hid (btr Hb3.out hb4)
      have HsA4 := Lib.hid (HsA.out.later hb4)
      clear hb4 HsA Hb3
      go_upto_region 9 with fail
      generalize dotsS j ++ mkS (wordL (bs s)) = line at *
      have hL := line_at (rdyS a b 4) A c line [] none 0 m w4 sb HsA4.out Hvd.out (by omega) (.inl rfl) (by decide) (cell_later Hb4.out Hm.out) (fun _ => Hnd.out)
      rw [Hln.out] at hL
      have hx0 := HsA4.out.bk
      have s0 : w4.cell? ⟨sb, 0, none⟩ = some (.int .i64 4) := hx0.cell 0 _ rfl
      have s1 : w4.cell? ⟨sb, 1, none⟩ = some (.string a.loc) := hx0.cell 1 _ rfl
      have s2 : w4.cell? ⟨sb, 2, none⟩ = some (.string a.dom) := hx0.cell 2 _ rfl
      have s3 : w4.cell? ⟨sb, 3, none⟩ = some (.slice A 1 c) := hx0.cell 3 _ rfl
      have s4 : w4.cell? ⟨sb, 4, none⟩ = some (.string ⟨#[]⟩) := hx0.cell 4 _ rfl
      have s5 : w4.cell? ⟨sb, 5, none⟩ = some (.bool false) := hx0.cell 5 _ rfl
      dsimp only [sesVal, rdyS, List.length_singleton, List.length_nil] at hL
      have HL := Lib.hid hL
      clear hL hx0 Hln Hnd Hvd
      go_wp2_with fail
      refine HL.out.mono ?_
      rintro e w5 ⟨A2, c2, rfl, ho5, hb5⟩
      have Ho5 := Lib.hid ho5
      have Hb5 := Lib.hid (btr Hb4.out hb5)
      clear hb5 ho5 s0 s1 s2 s3 s4 s5 HL
      dsimp only [sesVal, List.length_singleton] at Ho5 ⊢
      have hS := Bk.new w5 [.int .i64 4, .string a.loc, .string a.dom, .slice A2 1 c2, .string (wantS j line ++ ⟨#[13, 10]⟩), .bool false] 33
      have hal : Below w5.heap.size w5 (w5.alloc (.cells #[.int .i64 4, .string a.loc, .string a.dom, .slice A2 1 c2, .string (wantS j line ++ ⟨#[13, 10]⟩), .bool false] 33)) := bal (Below.refl _ _) _
      have HS := Lib.hid hS
      have Hal := Lib.hid hal
      clear hS hal
      go_upto_region 10 with fail
      generalize w5.alloc (.cells #[.int .i64 4, .string a.loc, .string a.dom, .slice A2 1 c2, .string (wantS j line ++ ⟨#[13, 10]⟩), .bool false] 33) = w6 at *
      have Hb6 := Lib.hid (btr Hb5.out Hal.out)
      have hS6 : SesAt w6 w5.heap.size ⟨4, a, [b], wantS j line ++ ⟨#[13, 10]⟩, false⟩ A2 c2 := ⟨HS.out, row_later Hal.out Ho5.out⟩
      have HS6 := Lib.hid hS6
      have hl5 := HS.out.lt
      clear hS6 HS Ho5 Hal
      generalize w5.heap.size = nb at *
      have hD := dot_at ⟨4, a, [b], wantS j line ++ ⟨#[13, 10]⟩, false⟩ A2 c2 [] none 0 m w6 nb HS6.out Hvy.out (.inl rfl) (by decide) (cell_later Hb6.out Hm.out) rfl
      dsimp only [sesVal, List.length_singleton, List.length_nil] at hD
      have HD := Lib.hid hD
      have hx0 := HS6.out.bk
      have s0 : w6.cell? ⟨nb, 0, none⟩ = some (.int .i64 4) := hx0.cell 0 _ rfl
      have s1 : w6.cell? ⟨nb, 1, none⟩ = some (.string a.loc) := hx0.cell 1 _ rfl
      have s2 : w6.cell? ⟨nb, 2, none⟩ = some (.string a.dom) := hx0.cell 2 _ rfl
      have s3 : w6.cell? ⟨nb, 3, none⟩ = some (.slice A2 1 c2) := hx0.cell 3 _ rfl
      have s4 : w6.cell? ⟨nb, 4, none⟩ = some (.string (wantS j line ++ ⟨#[13, 10]⟩)) := hx0.cell 4 _ rfl
      have s5 : w6.cell? ⟨nb, 5, none⟩ = some (.bool false) := hx0.cell 5 _ rfl
      have hww : (0 < j → wantS j line = line.extract 1 line.size) ∧ (¬ 0 < j → wantS j line = line) := ⟨fun h => by unfold wantS; rw [if_pos h], fun h => by unfold wantS; rw [if_neg h]⟩
      have Hww := Lib.hid hww
      have hw2 : (wantS j line).size ≤ 30 := by omega
      have hw9 : ¬ 9223372036854775807 < (wantS j line).size + 2 := by omega
      clear hD hx0 hwz hww
      generalize wantS j line = want at *
      have h1l : (1 : Int) ≤ (line.size : Int) := by omega
      by_cases h0 : 0 < j
      · have h0i : (0 : Int) < (j : Int) := by omega
        have hwe := (Hww.out.1 h0).symm
        clear h0
        go_upto_region 13 with fail
        go_wp2_with fail
        refine HD.out.mono ?_
        rintro e w7 ⟨v, rfl, hrow, hb7⟩
        obtain ⟨g, cap, rfl, c4⟩ : ∃ g cap, v = .slice (some ⟨g, 0, none⟩) 1 cap ∧ w7.cell? ⟨g, 4, none⟩ = some (.string (want ++ ⟨#[13, 10]⟩)) := by
          rcases hrow.2 with ⟨_, h2⟩ | ⟨g, cap, cur, rfl, _⟩
          · exact absurd h2 (by show ¬ (1 = 0); decide)
          · exact ⟨g, cap, rfl, (World.ownsRow.cellAt hrow 4 (by show 4 < 1 * 5; decide)).trans rfl⟩
        have hal : Below w7.heap.size w7 (w7.alloc (.cells #[.int .i64 1, .string ⟨#[]⟩, .string ⟨#[]⟩, .slice none 0 0, .string ⟨#[]⟩, .bool false] 33)) := bal (Below.refl _ _) _
        have t4 := cell_later hal (cell_later hb7 s4)
        have d4 := cell_later hal c4
        have e0 := (Bk.new w7 [.int .i64 1, .string ⟨#[]⟩, .string ⟨#[]⟩, .slice none 0 0, .string ⟨#[]⟩, .bool false] 33).cell 0 _ rfl
        have Hbf := Lib.hid (btr (btr Hb6.out hb7) hal)
        clear hrow hal hb7 c4 s0 s1 s2 s3 s4 s5 HD
        dsimp only [sesVal, readyS, zeroA, List.length_nil]
        go_upto_region 14 with fail
        generalize w7.alloc (.cells #[.int .i64 1, .string ⟨#[]⟩, .string ⟨#[]⟩, .slice none 0 0, .string ⟨#[]⟩, .bool false] 33) = w8 at *
        have hd := bdr w8
        have hKK : w8.drew.cell? ⟨nb, 4, none⟩ = some (.string (want ++ ⟨#[13, 10]⟩)) ∧ w8.drew.cell? ⟨g, 4, none⟩ = some (.string (want ++ ⟨#[13, 10]⟩)) ∧ w8.drew.cell? ⟨w7.heap.size, 0, none⟩ = some (.int .i64 1) := ⟨cell_later hd t4, cell_later hd d4, cell_later hd e0⟩
        have Hbg := Lib.hid (btr Hbf.out hd)
        clear hd t4 d4 e0
        go_region_held3 (fun W => W.cell? ⟨nb, 4, none⟩ = some (.string (want ++ ⟨#[13, 10]⟩)) ∧ W.cell? ⟨g, 4, none⟩ = some (.string (want ++ ⟨#[13, 10]⟩)) ∧ W.cell? ⟨w7.heap.size, 0, none⟩ = some (.int .i64 1)) (first | (with_reducible exact hKK)) (fail)
        all_goals (
          go_wp2_with fail
          go_ret
          exact ⟨rfl, Hbg.out⟩)
      · have h0i : ¬ (0 : Int) < (j : Int) := by omega
        obtain rfl := Hww.out.2 h0
        clear h0
        go_upto_region 13 with fail
        go_wp2_with fail
        refine HD.out.mono ?_
        rintro e w7 ⟨v, rfl, hrow, hb7⟩
        obtain ⟨g, cap, rfl, c4⟩ : ∃ g cap, v = .slice (some ⟨g, 0, none⟩) 1 cap ∧ w7.cell? ⟨g, 4, none⟩ = some (.string (want ++ ⟨#[13, 10]⟩)) := by
          rcases hrow.2 with ⟨_, h2⟩ | ⟨g, cap, cur, rfl, _⟩
          · exact absurd h2 (by show ¬ (1 = 0); decide)
          · exact ⟨g, cap, rfl, (World.ownsRow.cellAt hrow 4 (by show 4 < 1 * 5; decide)).trans rfl⟩
        have hal : Below w7.heap.size w7 (w7.alloc (.cells #[.int .i64 1, .string ⟨#[]⟩, .string ⟨#[]⟩, .slice none 0 0, .string ⟨#[]⟩, .bool false] 33)) := bal (Below.refl _ _) _
        have t4 := cell_later hal (cell_later hb7 s4)
        have d4 := cell_later hal c4
        have e0 := (Bk.new w7 [.int .i64 1, .string ⟨#[]⟩, .string ⟨#[]⟩, .slice none 0 0, .string ⟨#[]⟩, .bool false] 33).cell 0 _ rfl
        have Hbf := Lib.hid (btr (btr Hb6.out hb7) hal)
        clear hrow hal hb7 c4 s0 s1 s2 s3 s4 s5 HD
        dsimp only [sesVal, readyS, zeroA, List.length_nil]
        go_upto_region 14 with fail
        generalize w7.alloc (.cells #[.int .i64 1, .string ⟨#[]⟩, .string ⟨#[]⟩, .slice none 0 0, .string ⟨#[]⟩, .bool false] 33) = w8 at *
        have hd := bdr w8
        have hKK : w8.drew.cell? ⟨nb, 4, none⟩ = some (.string (want ++ ⟨#[13, 10]⟩)) ∧ w8.drew.cell? ⟨g, 4, none⟩ = some (.string (want ++ ⟨#[13, 10]⟩)) ∧ w8.drew.cell? ⟨w7.heap.size, 0, none⟩ = some (.int .i64 1) := ⟨cell_later hd t4, cell_later hd d4, cell_later hd e0⟩
        have Hbg := Lib.hid (btr Hbf.out hd)
        clear hd t4 d4 e0
        go_region_held3 (fun W => W.cell? ⟨nb, 4, none⟩ = some (.string (want ++ ⟨#[13, 10]⟩)) ∧ W.cell? ⟨g, 4, none⟩ = some (.string (want ++ ⟨#[13, 10]⟩)) ∧ W.cell? ⟨w7.heap.size, 0, none⟩ = some (.int .i64 1)) (first | (with_reducible exact hKK)) (fail)
        all_goals (
          go_wp2_with fail
          go_ret
          exact ⟨rfl, Hbg.out⟩)
end Go.Proofs.YtokeblpdaomagaaDoor
