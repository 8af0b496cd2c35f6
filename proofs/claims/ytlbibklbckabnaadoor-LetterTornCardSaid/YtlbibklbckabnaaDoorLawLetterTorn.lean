/- Without its empty line a message is too short: for every list of lines and every place. -/
import Derived.Test.YtlbibklbckabnaaDoorLetLaw2
import Derived.Test.YtlbibklbckabnaaDoorPick
namespace Go.Proofs.YtlbibklbckabnaaDoor
open Go.RowKit
set_option linter.unusedVariables false

theorem showR_small {F : List Fld} {body : List UInt8} (h : (showL F body).length ≤ 2000) : showR F body = (mkS (showL F body), 0) := by
  unfold showR; rw [if_neg (by omega)]
theorem chkR_small {n : Nat} (h : n ≤ 2000) : chkR n = 0 := by
  unfold chkR; rw [if_neg (by omega)]
/-- More rounds give the same answer, and there are as many as there are bytes. -/
theorem parse_more : ∀ (fuel n : Nat) (acc : List Fld) (s : List UInt8) (i : Nat) (e : Int), parseL fuel n acc s = .bad i e → e ≠ 0 → parseL (fuel + 1) n acc s = .bad i e
  | 0, n, acc, s, i, e, h, he => by
    rw [parseL] at h
    injection h with h1 h2
    exact absurd h2.symm he
  | f + 1, n, acc, s, i, e, h, he => by
    rw [parseL] at h ⊢
    cases hc : crlfL s with
    | none => rw [hc] at h; exact h
    | some x =>
      obtain ⟨a, b⟩ := x
      rw [hc] at h
      dsimp only at h ⊢
      by_cases h0 : a = []
      · rw [if_pos h0] at h; cases h
      · rw [if_neg h0] at h ⊢
        by_cases h1 : blkB (a.headD 0) = true ∧ acc ≠ []
        · rw [if_pos h1] at h ⊢
          exact parse_more f _ _ _ i e h he
        · rw [if_neg h1] at h ⊢
          cases hco : colonL a with
          | none => rw [hco] at h; exact h
          | some y =>
            rw [hco] at h
            dsimp only at h ⊢
            by_cases h2 : nameL y.1 = false
            · rw [if_pos h2] at h ⊢; exact h
            · rw [if_neg h2] at h ⊢
              by_cases h3 : acc.length = 30
              · rw [if_pos h3] at h ⊢; exact h
              · rw [if_neg h3] at h ⊢
                exact parse_more f _ _ _ i e h he
theorem parse_less : ∀ (fuel n : Nat) (acc : List Fld) (s : List UInt8), s.length < fuel → parseL (fuel + 1) n acc s = parseL fuel n acc s
  | 0, n, acc, s, h => by omega
  | f + 1, n, acc, s, h => by
    rw [parseL]
    conv => rhs; rw [parseL]
    cases hc : crlfL s with
    | none => rfl
    | some x =>
      obtain ⟨a, b⟩ := x
      have hl := crlfL_len _ _ _ hc
      dsimp only
      rw [parse_less f (n + 1) (goOn acc a) b (by omega)]
      cases hco : colonL a with
      | none => rfl
      | some y =>
        dsimp only
        rw [parse_less f (n + 1) (acc ++ [(⟨mkS y.1, mkS y.2⟩ : Fld)]) b (by omega)]
theorem parse_same (n : Nat) (acc : List Fld) (s : List UInt8) (a : Nat) (ha : s.length < a) : ∀ d, parseL (a + d) n acc s = parseL a n acc s
  | 0 => rfl
  | d + 1 => by rw [← Nat.add_assoc, parse_less (a + d) n acc s (by omega)]; exact parse_same n acc s a ha d
theorem parse_fuel (f n : Nat) (acc : List Fld) (s : List UInt8) (i : Nat) (e : Int) (h : parseL f n acc s = .bad i e) (he : e ≠ 0) :
    ∃ j : Nat, j = 0 ∧ ∀ g, s.length < g → parseL g n acc s = .bad i e := by
  refine ⟨0, rfl, fun g hg => ?_⟩
  have h1 : ∀ d, parseL (f + d) n acc s = .bad i e := by
    intro d
    induction d with
    | zero => exact h
    | succ d ih => exact parse_more (f + d) n acc s i e ih he
  have h2 := parse_same n acc s g hg f
  have h3 := h1 g
  rw [Nat.add_comm] at h3
  rw [← h2, h3]
set_option maxRecDepth 100000 in
set_option maxHeartbeats 8000000 in
theorem letterTorn_walk (x : List Fld) (A : Option Addr) (c : Nat) (at' m : Int) (w : World) (hx : x.length ≤ 9223372036854775807) (hA : kLin.Row w A x) (hat : (Lit.int .i64 at').wf = true) (hm : w.cell? ⟨0, 0, none⟩ = some (.int .i64 m)) :
    Calls Tryd.prog 11 #[.slice A x.length c, .int .i64 at'] w fun e w' => e = .returned (.bool true) ∧ Below w.heap.size w w' := by
  go_enter Tryd.func11, Tryd.ntmps11
  go_wp2_with fail
  refine (message_calls x A c ⟨#[]⟩ w hx hA (by decide)).mono ?_
  rintro e w1 ⟨v, rfl, hrow, hb1⟩
  have hmay := fieldsOf_may x
  have hn := fieldsOf_len x
  have hfl := fieldsOf_fldsL x
  obtain ⟨A2, c2, rfl, hlin⟩ := ownsRow_lin hrow rfl (fieldsOf_small x)
  have hsm := fieldsOf_small x
  rw [cutS_all ⟨#[]⟩ 200 (by decide)]
  obtain ⟨s, hs0⟩ : ∃ s : ByteArray, s = ⟨#[]⟩ := ⟨_, rfl⟩
  have hbz : s.size ≤ 200 := by rw [hs0]; decide
  have hbs0 : bs s = [] := by rw [hs0]; rfl
  rw [← hs0]
  clear hs0
  generalize fieldsOf x = F at *
  have hlen : (showL F (bs s)).length ≤ 600 := by rw [showL_len, bs_len]; omega
  have hlen2 : 2 ≤ (showL F (bs s)).length := by rw [showL_len]; omega
  have hmay2 := hmay
  have Hsm := Lib.hid hsm
  have Hmay := Lib.hid hmay
  have Hn := Lib.hid hn
  have hm1 := cell_later hb1 hm
  have hbz1 := hb1.size
  have Hbs0 := Lib.hid hbs0
  clear hbs0
  clear hrow hA hmay hmay2 hsm hn hfl hm
  have hb2 : Below w1.heap.size w1 (w1.alloc (.cells #[.slice A2 F.length c2, .string s] 45)) := (Below.refl _ w1).alloc (Nat.le_refl _) _
  have hM2 : MB (w1.alloc (.cells #[.slice A2 F.length c2, .string s] 45)) w1.heap.size (.slice A2 F.length c2) s := World.alloc_heap_new w1 _
  have hlin2 := hlin.later hb2
  have hm2 := cell_later hb2 hm1
  have hbw2 := hb1.trans (hb2.mono hbz1)
  have hsz2 := hbw2.size
  have hsh := show_msg F A2 c2 s m _ hlin2 Hmay.out (by have := Hn.out; omega) (by omega) hm2
  rw [showR_small (by omega)] at hsh
  have HSh := Lib.hid hsh
  clear hb1 hb2 hm1 hlin hsh
  go_wp2_with fail
  generalize w1.alloc (.cells #[.slice A2 F.length c2, .string s] 45) = w2 at *
  refine HSh.out.mono ?_
  rintro e w3 ⟨rfl, hb3⟩
  have hM3 := hM2.below hb3 hM2.lt
  have hlin3 := hlin2.later hb3
  have hm3 := cell_later hb3 hm2
  have hbw3 := hbw2.trans (hb3.mono hsz2)
  have hsz3 := hbw3.size
  have hps := mkS_size (showL F (bs s))
  have hshow : showL F (bs s) = fldsL F ++ [13, 10] := by rw [Hbs0.out]; rfl
  have hlt := hM3.lt
  have hpz : (mkS (showL F (bs s))).size ≤ 2000 := by rw [hps]; omega
  have hpz2 : 2 ≤ (mkS (showL F (bs s))).size := by rw [hps]; exact hlen2
  have hge := showL_ge F (bs s)
  have htorn : ∀ k, k < (mkS (showL F (bs s))).size → ∃ i, i ≤ F.length ∧ parseL (((mkS (showL F (bs s))).extract 0 k).size + 1) 0 [] (bs ((mkS (showL F (bs s))).extract 0 k)) = .bad i 4 := by
    intro k hk
    rw [hps] at hk
    obtain ⟨i, _, h2, h3⟩ := parse_torn F [] 0 (F.length + 1) k Hmay.out (by have := Hn.out; simp; omega) (Nat.lt_succ_self _) (by rw [← hshow]; exact hk)
    refine ⟨i, by omega, ?_⟩
    rw [bs_extract, List.drop_zero, bs_mkS, hshow]
    obtain ⟨j, hj1, hj2⟩ := parse_fuel (F.length + 1) 0 [] ((fldsL F ++ [13, 10]).take k) i 4 h3 (by decide)
    exact hj2 _ (by
      have h4 : ((mkS (fldsL F ++ [13, 10])).extract 0 k).size = ((fldsL F ++ [13, 10]).take k).length := by rw [← bs_len, bs_extract, List.drop_zero, bs_mkS]
      rw [h4]; omega)
  have HT := Lib.hid htorn
  have hne : (((mkS (showL F (bs s))).size : Int) == 0) = false := by rw [beq_eq_false_iff_ne]; omega
  have hp0 : (0 : Int) < ((mkS (showL F (bs s))).size : Int) := by omega
  have a0 := hM3.c0
  clear hM2 hlin2 hm2 hbw2 hb3 HSh htorn hps hlen hlen2 hshow hge
  generalize mkS (showL F (bs s)) = p at *
  have hk := pickN_lt at' (p.size : Int) hp0
  go_wp2_with fail
  refine (picked_calls at' (p.size : Int) w3 hat hp0 (by omega)).mono ?_
  rintro e w' ⟨rfl, rfl⟩
  generalize pickN at' (p.size : Int) = k at *
  obtain ⟨i, hi, hR⟩ := HT.out k (by omega)
  have hez : (p.extract 0 k).size ≤ p.size := by rw [← bs_len, bs_extract, List.drop_zero, List.length_take, bs_len]; omega
  have hpc := parse_calls (p.extract 0 k) m w3 (by omega) hm3 _ hR
  have HPc := Lib.hid hpc
  have hk0 : (0 : Int) ≤ (k : Int) := by omega
  have hkp : (k : Int) ≤ (p.size : Int) := by omega
  have hif : (i : Int) ≤ (F.length : Int) := by omega
  have HM3 := Lib.hid hM3
  clear hpc hR HT hM3 hez
  go_wp2_with fail
  refine HPc.out.mono ?_
  rintro e w4 ⟨hb4, he⟩
  dsimp only at he
  subst he
  have hM4 := HM3.out.below hb4 HM3.out.lt
  have a4 := hM4.c0
  have hl4 := hM4.lt
  have Hb4 := Lib.hid (hbw3.trans (hb4.mono hsz3))
  clear HPc hb4 hM4 hbw3 hlin3 hm3
  go_wp2
  go_ret
  exact ⟨rfl, Hb4.out.alloc (by have := Hb4.out.size; omega) _⟩
end Go.Proofs.YtlbibklbckabnaaDoor
