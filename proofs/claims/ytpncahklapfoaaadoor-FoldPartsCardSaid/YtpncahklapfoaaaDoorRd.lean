/- The reader of package book, as plain words: number and text for every state; what Decode reads. -/
import Derived.Test.YtpncahklapfoaaaDoorText
namespace Go.Proofs.YtpncahklapfoaaaDoor
open Go.RowKit
set_option linter.unusedVariables false

/-- A reader's state: the bytes that are left; were they too few? -/
abbrev St := List UInt8 × Bool
def rdNum (n : Nat) (s : St) : Nat × St := if s.2 = true ∨ s.1.length < n then (0, s.1, true) else (numL (s.1.take n), s.1.drop n, false)
def rdTake (n : Nat) (s : St) : List UInt8 × St := if s.2 = true ∨ s.1.length < n then ([], s.1, true) else (s.1.take n, s.1.drop n, false)
def rdText (s : St) : List UInt8 × St := rdTake (rdNum 2 s).1 (rdNum 2 s).2
def rdEnt (s : St) : Ent × St :=
  let a := rdNum 1 s
  let b := rdNum 1 a.2
  let c := rdNum 3 b.2
  let d := rdText c.2
  let e := rdText d.2
  let f := rdText e.2
  (⟨a.1, mkS d.1, c.1, b.1, mkS e.1, mkS f.1⟩, f.2)
def rdEnts : Nat → St → List Ent × St
  | 0, s => ([], s)
  | n + 1, s => if s.2 = true then ([], s) else ((rdEnt s).1 :: (rdEnts n (rdEnt s).2).1, (rdEnts n (rdEnt s).2).2)
/-- What Decode answers: the error, and the batch. -/
def decR (l : List UInt8) : Int :=
  if 100000 < l.length then 1 else
    if (rdEnts (rdNum 1 (rdNum 1 (l, false)).2).1 (rdNum 1 (rdNum 1 (l, false)).2).2).2.2 = true then 4
    else if 0 < (rdEnts (rdNum 1 (rdNum 1 (l, false)).2).1 (rdNum 1 (rdNum 1 (l, false)).2).2).2.1.length then 3
    else checkB (rdNum 1 (l, false)).1 (rdEnts (rdNum 1 (rdNum 1 (l, false)).2).1 (rdNum 1 (rdNum 1 (l, false)).2).2).1
theorem rdNum_len (n : Nat) (s : St) : (rdNum n s).2.1.length ≤ s.1.length := by
  unfold rdNum
  split
  · exact Nat.le_refl _
  · show (s.1.drop n).length ≤ _
    rw [List.length_drop]; omega
theorem rdTake_len (n : Nat) (s : St) : (rdTake n s).2.1.length ≤ s.1.length ∧ (rdTake n s).1.length ≤ s.1.length := by
  unfold rdTake
  split
  · exact ⟨Nat.le_refl _, by simp⟩
  · refine ⟨?_, ?_⟩
    · show (s.1.drop n).length ≤ _
      rw [List.length_drop]; omega
    · show (s.1.take n).length ≤ _
      rw [List.length_take]; omega
theorem rdNum_lt (n : Nat) (s : St) (hn : n ≤ 3) : (rdNum n s).1 < 16777216 := by
  unfold rdNum
  split
  · simp
  · show numL (s.1.take n) < _
    have h := numL_lt (s.1.take n)
    have h2 : 256 ^ (s.1.take n).length ≤ 256 ^ 3 := Nat.pow_le_pow_right (by decide) (by rw [List.length_take]; omega)
    omega
theorem number_calls (c n B : Nat) (s : St) (w : World) (hB : B ≤ c) (h : RS w c B s.1 s.2) (hl : s.1.length ≤ 1000000) (h3 : n ≤ 3) :
    Calls Tryd.prog 29 #[.pointer (some ⟨c, 0, none⟩), .int .i64 n] w fun e w' => e = .returned (.int .i64 (rdNum n s).1) ∧ RS w' c B (rdNum n s).2.1 (rdNum n s).2.2 ∧ Mv c w w' := by
  obtain ⟨l, sh⟩ := s
  simp only at h hl
  by_cases hb : sh = true ∨ l.length < n
  · have e : rdNum n (l, sh) = (0, l, true) := by unfold rdNum; rw [if_pos hb]
    rw [e]
    exact number_bad c n B l sh w hB h hb
  · have e : rdNum n (l, sh) = (numL (l.take n), l.drop n, false) := by unfold rdNum; rw [if_neg hb]
    obtain rfl : sh = false := by cases sh with
      | false => rfl
      | true => exact absurd (.inl rfl) hb
    rw [e]
    exact number_good c n B l w hB h (by omega) hl h3
theorem take_calls (c n B : Nat) (s : St) (w : World) (hB : B ≤ c) (h : RS w c B s.1 s.2) (hl : s.1.length ≤ 1000000) :
    Calls Tryd.prog 33 #[.pointer (some ⟨c, 0, none⟩), .int .i64 n] w fun e w' => ∃ A cap, e = .returned (.slice A (rdTake n s).1.length cap) ∧ BS w' B A cap (rdTake n s).1 ∧ RS w' c B (rdTake n s).2.1 (rdTake n s).2.2 ∧ Mv c w w' := by
  obtain ⟨l, sh⟩ := s
  simp only at h hl
  by_cases hb : sh = true ∨ l.length < n
  · have e : rdTake n (l, sh) = ([], l, true) := by unfold rdTake; rw [if_pos hb]
    rw [e]
    exact (take_bad c n B l sh w hB h hb).mono fun e w' ⟨he, hr, hm⟩ => ⟨none, 0, he, ⟨Nat.le_refl _, .inl ⟨rfl, rfl⟩⟩, hr, hm⟩
  · have e : rdTake n (l, sh) = (l.take n, l.drop n, false) := by unfold rdTake; rw [if_neg hb]
    obtain rfl : sh = false := by cases sh with
      | false => rfl
      | true => exact absurd (.inl rfl) hb
    rw [e]
    have hle : n ≤ l.length := by omega
    refine (take_good c n B l w hB h hle hl).mono ?_
    rintro e w' ⟨A, cap, rfl, hb, hr, hm⟩
    exact ⟨A, cap, by show _ = Ending.returned (.slice A (l.take n).length cap); rw [List.length_take, Nat.min_eq_left hle], hb, hr, hm⟩
set_option maxRecDepth 100000 in
set_option maxHeartbeats 2000000 in
theorem text_calls (c B : Nat) (s : St) (w : World) (hB : B ≤ c) (h : RS w c B s.1 s.2) (hl : s.1.length ≤ 1000000) :
    Calls Tryd.prog 30 #[.pointer (some ⟨c, 0, none⟩)] w fun e w' => e = .returned (.string (mkS (rdText s).1)) ∧ RS w' c B (rdText s).2.1 (rdText s).2.2 ∧ Mv c w w' := by
  have hnum := number_calls c 2 B s w hB h hl (by decide)
  have hln := rdNum_len 2 s
  have htk : ∀ w1, RS w1 c B (rdNum 2 s).2.1 (rdNum 2 s).2.2 → _ := fun w1 h1 => take_calls c (rdNum 2 s).1 B (rdNum 2 s).2 w1 hB h1 (by omega)
  rw [show rdTake (rdNum 2 s).1 (rdNum 2 s).2 = rdText s from rfl] at htk
  generalize rdText s = q at *
  generalize rdNum 2 s = p at *
  have Htk := Lib.hid htk
  clear htk h
  go_enter Tryd.func30, Tryd.ntmps30
  go_wp2_with fail
  refine hnum.mono ?_
  rintro e w1 ⟨rfl, hr1, hm1⟩
  go_wp2_with fail
  refine (Htk.out w1 hr1).mono ?_
  rintro e w2 ⟨A, cap, rfl, hb2, hr2, hm2⟩
  have hcv := conv_bs hb2
  go_wp2
  go_ret
  exact ⟨rfl, hr2, hm1.trans hm2⟩
end Go.Proofs.YtpncahklapfoaaaDoor
