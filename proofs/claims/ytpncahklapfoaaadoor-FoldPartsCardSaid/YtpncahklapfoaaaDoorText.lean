/- The reader of package book: text. -/
import Derived.Test.YtpncahklapfoaaaDoorTake
namespace Go.Proofs.YtpncahklapfoaaaDoor
open Go.RowKit
set_option linter.unusedVariables false

theorem conv_bs {W : World} {B cap : Nat} {A : Option Addr} {l : List UInt8} (h : BS W B A cap l) :
    (convert 27 9 (.slice A l.length cap)).run Tryd.prog W = .ok (.string (mkS l)) W := by
  obtain ⟨h0, ⟨rfl, rfl⟩ | ⟨g, off, rfl, hg, hc⟩⟩ := h
  · obtain rfl : l = [] := List.length_eq_zero_iff.1 (by omega)
    exact run_convert_bytes_nil W _ 5 Tryd.underlying27 Tryd.underlying5 0 0 _ Tryd.underlying9
  · have h1 := run_convert_bytes_arg (P := Tryd.prog) W 27 5 Tryd.underlying27 Tryd.underlying5 g off l.length cap (l.map fun c => (c.toNat : Int)) (by rw [List.length_map]) (fun i hi => by rw [hc i hi]; simp [List.getD, hi]) 9 Tryd.underlying9
    rw [strOfNums_bytes] at h1
    exact h1
/-- What the reader's text reads: the text, what is left; none: too short. -/
def textL (l : List UInt8) : Option (List UInt8 × List UInt8) :=
  if l.length < 2 then none else if (l.drop 2).length < numL (l.take 2) then none else some ((l.drop 2).take (numL (l.take 2)), (l.drop 2).drop (numL (l.take 2)))
set_option maxRecDepth 100000 in
set_option maxHeartbeats 2000000 in
theorem text_bad (c B : Nat) (l : List UInt8) (sh : Bool) (w : World) (hB : B ≤ c) (h : RS w c B l sh) (hl : l.length ≤ 1000000) (hn : sh = true ∨ textL l = none) :
    Calls Tryd.prog 30 #[.pointer (some ⟨c, 0, none⟩)] w fun e w' => e = .returned (.string (mkS [])) ∧ (∃ l', RS w' c B l' true ∧ l'.length ≤ l.length) ∧ Mv c w w' := by
  have hcn : ∀ W : World, (convert 27 9 (.slice none 0 0)).run Tryd.prog W = .ok (.string (mkS [])) W := fun W => conv_bs (B := 0) (l := []) ⟨Nat.le_refl _, .inl ⟨rfl, rfl⟩⟩
  by_cases h2 : sh = true ∨ l.length < 2
  · have hnum := number_bad c 2 B l sh w hB h h2
    go_enter Tryd.func30, Tryd.ntmps30
    go_wp2_with fail
    refine hnum.mono ?_
    rintro e w1 ⟨rfl, hr1, hm1⟩
    have ht := take_bad c 0 B l true w1 hB hr1 (.inl rfl)
    go_wp2_with fail
    refine ht.mono ?_
    rintro e w2 ⟨rfl, hr2, hm2⟩
    have hcv := hcn w2
    go_wp2
    go_ret
    exact ⟨rfl, ⟨l, hr2, Nat.le_refl _⟩, hm1.trans hm2⟩
  · have hsh : sh = false := by cases sh with
      | false => rfl
      | true => exact absurd (.inl rfl) h2
    subst hsh
    have h3 : 2 ≤ l.length := by omega
    have hnum := number_good c 2 B l w hB h h3 hl (by decide)
    have h4 : (l.drop 2).length < numL (l.take 2) := by
      have := hn.resolve_left (by simp)
      unfold textL at this
      rw [if_neg (by omega)] at this
      by_cases h5 : (l.drop 2).length < numL (l.take 2)
      · exact h5
      · rw [if_neg h5] at this; cases this
    have H4 := Lib.hid h4
    clear h4 hn h2 h
    go_enter Tryd.func30, Tryd.ntmps30
    go_wp2_with fail
    refine hnum.mono ?_
    rintro e w1 ⟨rfl, hr1, hm1⟩
    have ht := take_bad c (numL (l.take 2)) B (l.drop 2) false w1 hB hr1 (.inr H4.out)
    go_wp2_with fail
    refine ht.mono ?_
    rintro e w2 ⟨rfl, hr2, hm2⟩
    have hcv := hcn w2
    go_wp2
    go_ret
    exact ⟨rfl, ⟨_, hr2, by rw [List.length_drop]; omega⟩, hm1.trans hm2⟩
set_option maxRecDepth 100000 in
set_option maxHeartbeats 2000000 in
theorem text_good (c B : Nat) (l p r : List UInt8) (w : World) (hB : B ≤ c) (h : RS w c B l false) (hl : l.length ≤ 1000000) (hn : textL l = some (p, r)) :
    Calls Tryd.prog 30 #[.pointer (some ⟨c, 0, none⟩)] w fun e w' => e = .returned (.string (mkS p)) ∧ RS w' c B r false ∧ Mv c w w' := by
  unfold textL at hn
  by_cases h2 : l.length < 2
  · rw [if_pos h2] at hn; cases hn
  · rw [if_neg h2] at hn
    by_cases h5 : (l.drop 2).length < numL (l.take 2)
    · rw [if_pos h5] at hn; cases hn
    · rw [if_neg h5] at hn
      have hn2 := Option.some.inj hn
      have hp := (congrArg Prod.fst hn2).symm
      have hr := (congrArg Prod.snd hn2).symm
      simp only at hp hr
      have Hp := Lib.hid hp
      have Hr := Lib.hid hr
      have hnum := number_good c 2 B l w hB h (by omega) hl (by decide)
      have H5 := Lib.hid h5
      have hd : (l.drop 2).length ≤ 1000000 := by rw [List.length_drop]; omega
      clear hn hn2 hp hr h5 h2 h
      go_enter Tryd.func30, Tryd.ntmps30
      go_wp2_with fail
      refine hnum.mono ?_
      rintro e w1 ⟨rfl, hr1, hm1⟩
      have ht := take_good c (numL (l.take 2)) B (l.drop 2) w1 hB hr1 (by have := H5.out; omega) hd
      go_wp2_with fail
      refine ht.mono ?_
      rintro e w2 ⟨A, cap, rfl, hb2, hr2, hm2⟩
      have hlen : ((l.drop 2).take (numL (l.take 2))).length = numL (l.take 2) := by rw [List.length_take]; have := H5.out; omega
      have hcv := conv_bs hb2
      rw [hlen, ← Hp.out] at hcv
      rw [← Hr.out] at hr2
      clear hlen
      go_wp2
      go_ret
      exact ⟨rfl, hr2, hm1.trans hm2⟩
end Go.Proofs.YtpncahklapfoaaaDoor
