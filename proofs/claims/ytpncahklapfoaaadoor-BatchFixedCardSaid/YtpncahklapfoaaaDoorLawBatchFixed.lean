/- No batch has two forms: for every list of bytes. -/
import Derived.Test.YtpncahklapfoaaaDoorBatLaw
import Derived.Test.YtpncahklapfoaaaDoorU8
import Derived.Laws.AppendOwnNone
import Derived.Outline
namespace Go.Proofs.YtpncahklapfoaaaDoor
open Go.RowKit
set_option linter.unusedVariables false

set_option maxRecDepth 100000 in
set_option maxHeartbeats 2000000 in
theorem decode_long (A : Option Addr) (n cap : Nat) (w : World) (h1 : 100000 < n) (h2 : n ≤ 9223372036854775807) :
    Calls Tryd.prog 13 #[.slice A n cap] w fun e w' => e = .returned (.tuple #[.agg #[.int .i64 0, .slice none 0 0], .int .i64 1]) ∧ Below w.heap.size w w' := by
  have h3 : (100000 : Int) < (n : Int) := by omega
  go_enter Tryd.func13, Tryd.ntmps13
  go_wp2
  have c0 : (w.alloc (.cells #[.int .i64 0, .slice none 0 0] 25)).cell? ⟨w.heap.size, 0, none⟩ = some (.int .i64 0) := by rw [World.cell?_alloc_at _ _ _ _ rfl]; rfl
  have c1 : (w.alloc (.cells #[.int .i64 0, .slice none 0 0] 25)).cell? ⟨w.heap.size, 1, none⟩ = some (.slice none 0 0) := by rw [World.cell?_alloc_at _ _ _ _ rfl]; rfl
  exact bodyPost_ret (v := .tuple #[.agg #[.int .i64 0, .slice none 0 0], .int .i64 1]) (by simp [results, Tryd.results13, go_sem, c0, c1]) rfl ⟨rfl, (Below.refl _ w).alloc (Nat.le_refl _) _⟩
/-- What Decode answers of whatever list of bytes of the call's own. -/
def DecAny (w : World) (l : List UInt8) (e : Ending) (w' : World) : Prop :=
  if decR l = 0 then ∃ A c, e = .returned (.tuple #[.agg #[.int .i64 (decU l), .slice A (decE l).1.length c], .int .i64 0]) ∧ EsAt w' A (decE l).1 ∧ Below w.heap.size w w'
  else e = .returned (.tuple #[.agg #[.int .i64 0, .slice none 0 0], .int .i64 (decR l)]) ∧ Below w.heap.size w w'
theorem dec_any (A : Option Addr) (cap : Nat) (l : List UInt8) (m : Int) (w : World) (hA : BS w w.heap.size A cap l) (hl : l.length ≤ 9223372036854775807) (hm : w.cell? ⟨0, 0, none⟩ = some (.int .i64 m)) :
    Calls Tryd.prog 13 #[.slice A l.length cap] w fun e w' => DecAny w l e w' := by
  by_cases h : 100000 < l.length
  · have hr : decR l = 1 := by unfold decR; rw [if_pos h]
    refine (decode_long A l.length cap w h hl).mono fun e w' ⟨he, hb⟩ => ?_
    unfold DecAny
    rw [if_neg (by rw [hr]; decide), hr]
    exact ⟨he, hb⟩
  · refine (decode_calls A cap l m w hA (by omega) hm).mono ?_
    rintro e w' ⟨u', v', rfl, hb, hif⟩
    unfold DecAny
    by_cases hr : decR l = 0
    · rw [if_pos hr] at hif ⊢
      obtain ⟨rfl, h2⟩ := hif
      have h3 : w'.ownsRow w.heap.size 63 6 v' (decE l).1.length (entsCells (decE l).1) := h2
      obtain ⟨A2, c2, rfl⟩ := own_sliceE h3
      exact ⟨A2, c2, by rw [hr]; rfl, ownsRow_ents h3 rfl, hb⟩
    · rw [if_neg hr] at hif ⊢
      obtain ⟨rfl, rfl⟩ := hif
      exact ⟨rfl, hb⟩
theorem decE_small (l : List UInt8) (h : decR l = 0) : ∀ e ∈ (decE l).1, SmE e := by
  have h1 : ¬ 100000 < l.length := by
    intro h1
    rw [decR_parts, if_pos h1] at h
    cases h
  intro e he
  have h2 := rdEnts_small _ _ e he
  have h3 := rdNum_len 1 (l, false)
  have h4 := rdNum_len 1 (rdNum 1 (l, false)).2
  have h5 : (l, false).1.length = l.length := rfl
  exact ⟨by omega, by omega, by omega⟩
theorem row_bytes {w : World} {b off : Nat} {x : List UInt8} (h : kU8.At w b off x) : ∀ i, (hi : i < x.length) → w.cell? ⟨b, off + i, none⟩ = some (.int .u8 (x[i].toNat : Int)) := by
  intro i hi
  obtain ⟨cs, hk, hc⟩ := h i hi
  obtain rfl := kU8_cells hk
  have := hc 0 _ rfl
  rw [show off + (i * kU8.sz + 0) = off + i by show off + (i * 1 + 0) = _; omega] at this
  exact this
set_option maxRecDepth 100000 in
set_option maxHeartbeats 4000000 in
theorem batchFixed_walk (x : List UInt8) (A : Option Addr) (c : Nat) (m : Int) (w : World) (hx : x.length ≤ 140737488351232) (hlc : x.length ≤ c) (hn : A = none → c = 0) (hA : kU8.Row w A x) (hm : w.cell? ⟨0, 0, none⟩ = some (.int .i64 m)) :
    Calls Tryd.prog 4 #[.slice A x.length c] w fun e w' => e = .returned (.bool true) ∧ Below w.heap.size w w' := by
  obtain ⟨i0, hi, hz0, hz1, hz2⟩ := info_parts info_u8
  have hone : ∀ q ∈ u8s x, q.oneCell' = true := by
    intro q hq
    unfold u8s at hq
    obtain ⟨_, _, rfl⟩ := List.mem_map.1 hq
    rfl
  have Hon := Lib.hid hone
  clear hone
  have hnews : ∀ a, A = some a → ∀ (j : Nat) u, (u8s x)[j]? = some u → w.cell? (a.add j) = some u := by
    intro a ha j u hu
    have hj : j < x.length := by rw [← u8s_len x]; exact (List.getElem?_eq_some_iff.1 hu).1
    rcases hA with rfl | ⟨b, off, hAe, hat⟩
    · simp at hj
    · rw [ha] at hAe
      obtain rfl := Option.some.inj hAe
      rw [add_plain rfl, row_bytes hat j hj]
      rw [u8s_get x j hj] at hu
      exact hu
  have Hnw := Lib.hid hnews
  clear hnews
  have fin : ∀ (es : List Ent) (b : List UInt8), decR x = 0 → checkB (decU x) (decE x).1 = 0 ∧ batN (decU x) (decE x).1 = x := fun _ _ h => ⟨(dec_fixed x h).2, (dec_fixed x h).1⟩
  have hsm := decE_small x
  have enc := fun A c W hE hS hl hM => encode_calls (decU x) (decE x).1 A c m W hE hS hl hM
  have hel : decR x = 0 → (decE x).1.length ≤ 10 := fun h => (batch_ok _ _ (dec_fixed x h).2).2.2.2.1
  have Hel := Lib.hid hel
  have Hsm := Lib.hid hsm
  have Enc := Lib.hid enc
  have Fin := Lib.hid fin
  clear hsm enc fin hel
  cases A with
  | none =>
    obtain rfl := hn rfl
    obtain rfl : x = [] := List.length_eq_zero_iff.1 (by omega)
    have hd := dec_any none 0 [] m w ⟨Nat.le_refl _, .inl ⟨rfl, rfl⟩⟩ (by simp) hm
    have hr4 : decR [] = 4 := by decide
    have Hd := Lib.hid hd
    clear hd hA hn Hnw Hon
    go_enter Tryd.func4, Tryd.ntmps4
    go_wp2_with (first
      | (at_builtin; refine wpList_append_own_none (i := i0) rfl _ _ 27 rfl w.heap.size 5 1 Tryd.underlying27 hi (.slice none 0 0) 0 [] rfl (World.ownsRow_nil _ _ _ _) rfl ?_)
      | (go_at_call 13; refine Hd.out.mono ?_; intro e w2 he; unfold DecAny at he; rw [if_neg (by rw [hr4]; decide), hr4] at he; obtain ⟨rfl, hb2⟩ := he; have Hb2 := Lib.hid (hb2.alloc hb2.size (.cells #[.int .i64 0, .slice none 0 0] 25)); clear hb2))
    go_ret
    exact ⟨rfl, Hb2.out⟩
  | some a =>
    have hxx : x.length ≤ 9223372036854775807 := by omega
    go_enter Tryd.func4, Tryd.ntmps4
    go_wp2_with (first
      | (at_builtin; refine wpList_append_own _ rfl _ _ 27 rfl w.heap.size 5 i0 (.int .u8 0) 1 1 Tryd.underlying27 hi hz0 hz1 hz2 rfl (by decide) (.slice none 0 0) 0 [] rfl (World.ownsRow_nil _ _ _ _) a x.length c (u8s x) rfl (by rw [u8s_len, Nat.mul_one]) (Hnw.out a rfl) Hon.out (by unfold maxLen; omega) (by omega) (Nat.le_refl _) ?_; intro v' w1 hown' hgrow _; rw [Nat.zero_add, List.nil_append] at hown'; obtain ⟨A1, c1, rfl⟩ := own_sliceE hown'; have hb1 := below_new (B := w.heap.size) hgrow (Nat.le_refl _); have hbs1 := bs_of_own hown' rfl; have Hd := Lib.hid (dec_any A1 c1 x m w1 hbs1 hxx (cell_later hb1 hm)); have HB1 := Lib.hid hb1; clear hown' hgrow hbs1 hb1)
      | fail)
    refine Hd.out.mono ?_
    intro e w2 he
    unfold DecAny at he
    by_cases hr : decR x = 0
    · rw [if_pos hr] at he
      obtain ⟨A2, c2, rfl, hes, hb2⟩ := he
      have hb3 := HB1.out.trans (hb2.mono HB1.out.size)
      have hcb := (Fin.out [] [] hr).1
      have hbn := (Fin.out [] [] hr).2
      have hel := Hel.out hr
      have hbA : Below w2.heap.size w2 (w2.alloc (.cells #[.int .i64 (decU x), .slice A2 (decE x).1.length c2] 25)) := (Below.refl _ _).alloc (Nat.le_refl _) _
      have hX := Bk.new w2 [.int .i64 (decU x), .slice A2 (decE x).1.length c2] 25
      have hen := Enc.out A2 c2 _ (hes.later hbA) (Hsm.out hr) (by omega) (cell_later hbA (cell_later hb3 hm))
      unfold EncOk at hen
      rw [hcb] at hen
      have hb4 := hb3.trans (hbA.mono hb3.size)
      have Hen := Lib.hid hen
      have Hbn := Lib.hid hbn
      have a0 := hX.cell 0 _ rfl
      have a1 := hX.cell 1 _ rfl
      have Hb4 := Lib.hid hb4
      have hcA : ∀ W, Below w.heap.size w W → (convert 27 9 (.slice (some a) x.length c)).run Tryd.prog W = .ok (.string (mkS x)) W := by
        intro W hbW
        have hx0 : x ≠ [] := by
          intro h0
          rw [h0] at hr
          exact absurd hr (by decide)
        rcases hA with h0 | ⟨b, off, hAe, hat⟩
        · exact absurd h0 hx0
        · obtain rfl := Option.some.inj hAe
          have hcl := row_bytes hat
          exact conv_bs (B := W.heap.size) ⟨hlc, .inr ⟨b, off, rfl, by
            have h0 := hcl 0 (List.length_pos_iff.2 hx0)
            have h1 := World.block_lt_of_cell? w _ h0
            exact Nat.lt_of_lt_of_le h1 hbW.size, fun i hi => cell_later hbW (hcl i hi)⟩⟩
      have HcA := Lib.hid hcA
      clear hcA hen hbn hcb hb4 hX hbA hb3 hes hb2 Hd HB1 Hel Hsm Enc Fin Hnw Hon hel
      generalize (decE x).1 = es at *
      generalize decU x = u at *
      go_wp2_with fail
      generalize w2.alloc (.cells #[.int .i64 u, .slice A2 es.length c2] 25) = w3 at *
      refine Hen.out.mono ?_
      intro e w4 he4
      rw [if_pos (by first | trivial | rfl)] at he4
      obtain ⟨v4, rfl, hrow4, hb5⟩ := he4
      have hb6 := Hb4.out.trans (hb5.mono Hb4.out.size)
      rw [Hbn.out] at hrow4
      obtain ⟨A4, c4, rfl⟩ := own_sliceE hrow4
      have k1 := conv_own Tryd.underlying27 Tryd.underlying5 Tryd.underlying9 hrow4
      have k2 := HcA.out w4 hb6
      have Hb6 := Lib.hid hb6
      clear hb6 hrow4 hb5 Hen HcA Hb4 Hbn a0 a1 hr hA
      go_wp2_with fail
      go_ret
      exact ⟨rfl, Hb6.out⟩
    · rw [if_neg hr] at he
      obtain ⟨rfl, hb2⟩ := he
      have hb3 := HB1.out.trans (hb2.mono HB1.out.size)
      have Hb3 := Lib.hid (hb3.alloc hb3.size (.cells #[.int .i64 0, .slice none 0 0] 25))
      have hne : (decR x != 0) = true := by simpa using hr
      generalize decR x = z at *
      clear hb2 hb3 HB1 Hd hr Hel Hsm Enc Fin Hnw Hon hA
      go_wp2_with fail
      go_ret
      exact ⟨rfl, Hb3.out⟩
end Go.Proofs.YtpncahklapfoaaaDoor
