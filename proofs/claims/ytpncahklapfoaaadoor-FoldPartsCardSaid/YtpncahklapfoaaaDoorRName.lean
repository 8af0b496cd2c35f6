/- The function rule.Name: what it returns for every text. -/
import Derived.Test.YtpncahklapfoaaaDoorEntPlain
import Derived.WalkKit
namespace Go.Proofs.YtpncahklapfoaaaDoor
open Go.RowKit
set_option linter.unusedVariables false

theorem rnB_of (c : UInt8) (h1 : 33 ≤ (c.toNat : Int)) (h2 : (c.toNat : Int) ≤ 126) : rnB c = true := by
  unfold rnB
  simp only [Bool.and_eq_true, decide_eq_true_eq, UInt8.le_iff_toNat_le]
  exact ⟨by show 33 ≤ c.toNat; omega, by show c.toNat ≤ 126; omega⟩
theorem rnB_not (c : UInt8) (h : (c.toNat : Int) < 33 ∨ 126 < (c.toNat : Int)) : rnB c = false := by
  rw [Bool.eq_false_iff]
  intro hn
  unfold rnB at hn
  simp only [Bool.and_eq_true, decide_eq_true_eq, UInt8.le_iff_toNat_le] at hn
  obtain ⟨h1, h2⟩ := hn
  have h1' : 33 ≤ c.toNat := h1
  have h2' : c.toNat ≤ 126 := h2
  omega
theorem mem_bs (s : ByteArray) (k : Nat) (h : k < s.size) : s[k] ∈ bs s := by
  have h2 : (bs s)[k]? = some s[k] := by
    show s.data.toList[k]? = _
    rw [List.getElem?_eq_getElem (by exact h)]; rfl
  exact List.mem_of_getElem? h2
set_option maxRecDepth 100000 in
set_option maxHeartbeats 1000000 in
theorem rname_calls (s : ByteArray) (w : World) (hs : s.size ≤ 9223372036854775807) :
    Calls Tryd.prog 40 #[.string s] w fun e w' => e = .returned (.int .i64 (nameR (bs s))) ∧ w = w' := by
  by_cases hlo : s.size < 1
  · have hr : nameR (bs s) = 1 := by unfold nameR; rw [if_pos (.inl (by rw [bs_len]; exact hlo))]
    have Hr := Lib.hid hr
    have hd : decide ((s.size : Int) < 1) = true := by simp; omega
    clear hr
    go_enter Tryd.func40, Tryd.ntmps40
    go_wp2
    go_ret
    exact ⟨by rw [Hr.out]; rfl, rfl⟩
  · by_cases hhi : 12 < s.size
    · have hr : nameR (bs s) = 1 := by unfold nameR; rw [if_pos (.inr (by rw [bs_len]; exact hhi))]
      have Hr := Lib.hid hr
      clear hr
      go_enter Tryd.func40, Tryd.ntmps40
      go_wp2
      go_ret
      exact ⟨by rw [Hr.out]; rfl, rfl⟩
    · have hr : nameR (bs s) = if (bs s).all rnB = true then 0 else 3 := by unfold nameR; rw [if_neg (by rw [bs_len]; omega)]
      have Hr := Lib.hid hr
      clear hr
      go_enter Tryd.func40, Tryd.ntmps40
      go_wp2_with fail
      go_loop [14] (fun i => ∃ k : Nat, k ≤ s.size ∧ i = .int .i64 k ∧ ((bs s).take k).all rnB = true) (fun i => s.size - (intOf i).toNat)
      case atStart => exact ⟨0, Nat.zero_le _, rfl, rfl⟩
      case round =>
        obtain ⟨k, hk, rfl, hg⟩ := hrel
        have Hall := Lib.hid hg
        clear hg
        by_cases hlt : k < s.size
        · have hcs := s[k].toNat_lt
          have hsn := take_snoc s k hlt
          by_cases hc : 33 ≤ (s[k].toNat : Int) ∧ (s[k].toNat : Int) ≤ 126
          · have hall : ((bs s).take (k + 1)).all rnB = true := by rw [hsn, List.all_append, Hall.out, List.all_cons, rnB_of _ hc.1 hc.2]; rfl
            have Hall2 := Lib.hid hall
            obtain ⟨hc1, hc2⟩ := hc
            have d1 : decide ((s[k].toNat : Int) < 33) = false := by simp; omega
            have d2 : decide (126 < (s[k].toNat : Int)) = false := by simp; omega
            clear hsn hall Hall Hr
            go_wp2
            go_round
            case rel => exact ⟨k + 1, by omega, by go_num, Hall2.out⟩
            case measure => simp [intOf]; omega
          · have hr : nameR (bs s) = 3 := by
              rw [Hr.out, if_neg]
              intro h2
              have := List.all_eq_true.1 h2 s[k] (mem_bs s k hlt)
              rw [rnB_not _ (by omega)] at this
              exact Bool.noConfusion this
            have Hr2 := Lib.hid hr
            clear hr Hr hsn Hall
            by_cases hd : (s[k].toNat : Int) < 33
            · have d2 : decide (126 < (s[k].toNat : Int)) = false := by simp; omega
              go_wp2
              go_ret
              exact ⟨by rw [Hr2.out]; rfl, rfl⟩
            · have hd2 : 126 < (s[k].toNat : Int) := by omega
              go_wp2
              go_ret
              exact ⟨by rw [Hr2.out]; rfl, rfl⟩
        · have hke : k = s.size := by omega
          subst hke
          have hall := Hall.out
          rw [take_full] at hall
          have hr : nameR (bs s) = 0 := by rw [Hr.out, if_pos hall]
          have Hr2 := Lib.hid hr
          clear hr Hr Hall hall
          go_wp2
          go_ret
          exact ⟨by rw [Hr2.out]; rfl, rfl⟩
end Go.Proofs.YtpncahklapfoaaaDoor
