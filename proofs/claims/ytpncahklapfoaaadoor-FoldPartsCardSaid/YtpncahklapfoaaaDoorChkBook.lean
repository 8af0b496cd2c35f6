/- book.Check: what it answers. -/
import Derived.Test.YtpncahklapfoaaaDoorEntRow
namespace Go.Proofs.YtpncahklapfoaaaDoor
open Go.RowKit
set_option linter.unusedVariables false

set_option maxRecDepth 100000 in
set_option maxHeartbeats 2000000 in
theorem check_book (user : Int) (es : List Ent) (A : Option Addr) (c : Nat) (m : Int) (w : World) (hA : EsAt w A es) (hsm : ∀ e ∈ es, SmE e) (hl : es.length ≤ 1000000) (hm : w.cell? ⟨0, 0, none⟩ = some (.int .i64 m)) :
    Calls Tryd.prog 15 #[.agg #[.int .i64 user, .slice A es.length c]] w fun e w' => e = .returned (.int .i64 (checkB user es)) ∧ Below w.heap.size w w' := by
  have Hsm := Lib.hid hsm
  have hbl : Below w.heap.size w (w.alloc (.cells #[.int .i64 user, .slice A es.length c] 25)) := (Below.refl _ w).alloc (Nat.le_refl _) _
  by_cases hu : user < 0 ∨ 3 ≤ user
  · have hr : checkB user es = 6 := by unfold checkB; rw [if_pos hu]
    have Hr := Lib.hid hr
    clear hr hsm hA
    go_enter Tryd.func15, Tryd.ntmps15
    by_cases h1 : user < 0
    · go_wp2
      go_ret
      exact ⟨by rw [Hr.out]; rfl, hbl⟩
    · have h2 : 3 ≤ user := by omega
      go_wp2
      go_ret
      exact ⟨by rw [Hr.out]; rfl, hbl⟩
  · have h1 : ¬ user < 0 := fun h => hu (.inl h)
    have h2 : ¬ 3 ≤ user := fun h => hu (.inr h)
    have hr : checkB user es = if es.length < 1 ∨ 10 < es.length then 1 else formsR es := by unfold checkB; rw [if_neg hu]
    clear hu
    by_cases hn : es.length < 1 ∨ 10 < es.length
    · rw [if_pos hn] at hr
      have Hr := Lib.hid hr
      clear hr hsm hA
      generalize es.length = n at *
      go_enter Tryd.func15, Tryd.ntmps15
      by_cases h3 : n < 1
      · have d1 : decide ((n : Int) < 1) = true := by simp; omega
        go_wp2
        go_ret
        exact ⟨by rw [Hr.out]; rfl, hbl⟩
      · have h4 : 10 < n := by omega
        have d1 : decide ((n : Int) < 1) = false := by simp; omega
        have d2 : decide (10 < (n : Int)) = true := by simp; omega
        go_wp2
        go_ret
        exact ⟨by rw [Hr.out]; rfl, hbl⟩
    · rw [if_neg hn] at hr
      have Hr := Lib.hid hr
      have hn1 : 1 ≤ es.length := by omega
      have hn2 : es.length ≤ 10 := by omega
      have d1 : decide ((es.length : Int) < 1) = false := by simp; omega
      have d2 : decide (10 < (es.length : Int)) = false := by simp; omega
      clear hr hn hsm
      go_enter Tryd.func15, Tryd.ntmps15
      go_wp2_with fail
      have hm1 := cell_later hbl hm
      clear hm
      obtain ⟨W0, hW0⟩ : ∃ W0 : World, W0 = w.alloc (.cells #[.int .i64 user, .slice A es.length c] 25) := ⟨_, rfl⟩
      rw [← hW0] at hbl hm1 ⊢
      clear hW0
      go_loopw [27] (fun t wr => ∃ k : Nat, k ≤ es.length ∧ t = .int .i64 k ∧ Hid (Below w.heap.size w wr) ∧ Hid (wr.cell? ⟨0, 0, none⟩ = some (.int .i64 m)) ∧ Hid (formsR es = formsR (es.drop k))) (fun t _ => es.length - (intOf t).toNat)
      case atStart => exact ⟨0, Nat.zero_le _, rfl, Lib.hid hbl, Lib.hid hm1, Lib.hid rfl⟩
      case round =>
        obtain ⟨k, hk, rfl, Hb, Hm, Hf⟩ := hrel
        clear hbl hm1
        have hb := Hb.out
        have hmm := Hm.out
        by_cases hlt : k < es.length
        · obtain ⟨g, off, rfl, c0, c1, c2, c3, c4, c5⟩ := hA.later hb k hlt
          have hdr : es.drop k = es[k] :: es.drop (k + 1) := List.drop_eq_getElem_cons hlt
          have hse := Hsm.out es[k] (List.getElem_mem hlt)
          have hf := Hf.out
          rw [hdr, formsR_cons] at hf
          generalize es[k] = x at *
          have Hf2 := Lib.hid hf
          clear hf hdr Hf
          have hk0 : (0 : Int) ≤ (k : Int) := by omega
          have hkn : (k : Int) < (es.length : Int) := by omega
          have hb4 : Below wr.heap.size wr (wr.alloc (.cells (entCells x).toArray 63)) := (Below.refl _ wr).alloc (Nat.le_refl _) _
          obtain ⟨s1, s2, s3⟩ := hse
          have hfo := form_calls x m (wr.alloc (.cells (entCells x).toArray 63)) (by omega) (by omega) (by omega) (cell_later hb4 hmm)
          have hb5 := hb.trans (hb4.mono hb.size)
          have hm5 := cell_later hb4 hmm
          have Hfo := Lib.hid hfo
          have Hb5 := Lib.hid hb5
          have Hm5 := Lib.hid hm5
          clear hfo hb5 hm5 hb4 hmm
          unfold entCells entVal at Hfo
          unfold entCells at Hb5 Hm5
          go_wp2_with fail
          refine Hfo.out.mono ?_
          rintro e w5 ⟨rfl, hb6⟩
          have hb7 := Hb5.out.trans (hb6.mono Hb5.out.size)
          have hm7 := cell_later hb6 Hm5.out
          have Hb7 := Lib.hid hb7
          have Hm7 := Lib.hid hm7
          clear Hb5 Hm5 Hb Hm hb6 hb7 hm7 hb Hfo
          by_cases hz : formR x = 0
          · have hf := Hf2.out
            rw [if_neg (by rw [hz]; simp)] at hf
            have Hf3 := Lib.hid hf
            clear hf Hf2
            rw [hz]
            clear hz
            go_wp2
            go_roundw
            case rel => exact ⟨k + 1, by omega, by go_num, Hb7, Hm7, Hf3⟩
            case measure => simp [intOf]; omega
          · have hf := Hf2.out
            rw [if_pos hz] at hf
            have hr := Hr.out
            rw [hf] at hr
            have hne : (formR x != 0) = true := by simpa using hz
            generalize formR x = z at *
            have Hr2 := Lib.hid hr
            clear hf hr Hr Hf2
            go_wp2
            go_ret
            exact ⟨by rw [Hr2.out]; rfl, Hb7.out⟩
        · obtain rfl : k = es.length := by omega
          have hf := Hf.out
          rw [List.drop_length] at hf
          have hr := Hr.out
          rw [hf] at hr
          have Hr2 := Lib.hid hr
          clear hf hr Hr Hf hA
          go_wp2
          go_ret
          exact ⟨by rw [Hr2.out]; rfl, hb⟩
end Go.Proofs.YtpncahklapfoaaaDoor
