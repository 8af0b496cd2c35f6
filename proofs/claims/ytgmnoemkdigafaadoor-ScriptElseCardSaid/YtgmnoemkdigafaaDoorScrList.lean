/- The writer of tokens of package script: it puts a list of strings. -/
import Derived.Test.YtgmnoemkdigafaaDoorScrPut
namespace Go.Proofs.YtgmnoemkdigafaaDoor
open Go.RowKit
set_option linter.unusedVariables false

theorem flag_calls (b : Bool) (W : World) : Calls Tryd.prog 67 #[.bool b] W fun e w' => e = .returned (.int .i64 (if b = true then 1 else 0)) ∧ W = w' := by
  cases b
  all_goals (
    go_enter Tryd.func67, Tryd.ntmps67
    go_wp2
    go_ret
    exact ⟨rfl, rfl⟩)
theorem listTks_append : ∀ (i : Nat) (a b : List ByteArray), listTks i (a ++ b) = listTks i a ++ listTks (i + a.length) b
  | i, [], b => by simp [listTks]
  | i, s :: a, b => by
    simp only [List.cons_append, listTks, List.length_cons]
    rw [listTks_append (i + 1) a b, show i + 1 + a.length = i + (a.length + 1) by omega]
theorem listTks_len : ∀ (i : Nat) (a : List ByteArray), (listTks i a).length = 2 * a.length
  | i, [] => rfl
  | i, s :: a => by
    simp only [listTks, List.length_cons]
    rw [listTks_len (i + 1) a]; omega
theorem listTk_many (l : List ByteArray) (h : l.length ≠ 1) : listTk l = listTks 0 l ++ [markTk 93] := by
  match l with
  | [] => rfl
  | [s] => simp at h
  | a :: b :: r => rfl
/-- How far a writer's work has come. -/
structure WSt (B : Nat) (w0 W W' : World) (c : Nat) (l : List Tok) : Prop where
  wr : Wr B W' c l
  tw : Tw B W W'
  old : Below w0.heap.size w0 W'
theorem WSt.alloc {B : Nat} {w0 W W' : World} {c : Nat} {l : List Tok} (h : WSt B w0 W W' c l) (o : Obj) : WSt B w0 W (W'.alloc o) c l := by
  have hb : Below W'.heap.size W' (W'.alloc o) := bal (Below.refl _ _) _
  have hB : B ≤ W'.heap.size := by
    obtain ⟨h1, v, h2, h3⟩ := h.wr
    have := h2.lt
    omega
  exact ⟨h.wr.later hb, h.tw.trans (tw_later hB hb), btr h.old hb⟩
theorem WSt.put {B : Nat} {w0 W W' W2 : World} {c : Nat} {l l2 : List Tok} (h : WSt B w0 W W' c l) (hB : w0.heap.size ≤ B) (h1 : Wr B W2 c l2) (h2 : Tw B W' W2) : WSt B w0 W W2 c l2 :=
  ⟨h1, h.tw.trans h2, h.old.trans (h2.below.mono hB)⟩
set_option maxRecDepth 100000 in
set_option maxHeartbeats 8000000 in
theorem wlist_calls (B c : Nat) (l : List Tok) (ss : List ByteArray) (A : Option Addr) (cp : Nat) (w0 W : World) (hA : TxAt w0 A ss) (hB : w0.heap.size ≤ B) (hb : Below w0.heap.size w0 W) (h : Wr B W c l) (hl : l.length + 2 * ss.length ≤ 900000) :
    Calls Tryd.prog 45 #[.pointer (some ⟨c, 0, none⟩), .slice A ss.length cp] W fun e W' => e = .returned (.tuple #[]) ∧ Wr B W' c (l ++ listTk ss) ∧ Tw B W W' := by
  have Hs := Lib.hid (WSt.mk h (Tw.refl B W) hb)
  have HA := Lib.hid hA
  clear h hA hb
  by_cases h1 : ss.length = 1
  · obtain ⟨s, rfl⟩ := List.length_eq_one_iff.1 h1
    obtain ⟨g, off, rfl, hc⟩ := HA.out.resolve_left (by simp)
    have c0 := cell_later Hs.out.old (hc 0 s rfl)
    have hp := put_calls B c l 4 s W Hs.out.wr (by omega)
    have Hp := Lib.hid hp
    clear hp h1 hc
    simp only [List.length_singleton, Nat.add_zero] at c0 ⊢
    go_enter Tryd.func45, Tryd.ntmps45
    go_wp2_with fail
    refine Hp.out.mono ?_
    rintro e W1 ⟨rfl, hw, ht⟩
    have Hw := Lib.hid hw
    have Ht := Lib.hid ht
    clear hw ht
    go_wp2_with fail
    exact bodyPost_ret (results_none rfl _ _ _) rfl ⟨rfl, Hw.out, Ht.out⟩
  · have e1 : ((ss.length : Int) == 1) = false := by rw [beq_eq_false_iff_ne]; omega
    have hlk := listTk_many ss h1
    have Hlk := Lib.hid hlk
    clear hlk h1
    go_enter Tryd.func45, Tryd.ntmps45
    go_wp2_with fail
    go_loopw [16] (fun i wr => ∃ j : Nat, j ≤ ss.length ∧ i = .int .i64 j ∧ Hid (WSt B w0 W wr c (l ++ listTks 0 (ss.take j)))) (fun i _ => ss.length - (intOf i).toNat)
    case atStart => exact ⟨0, Nat.zero_le _, rfl, Lib.hid (by simpa [listTks] using Hs.out)⟩
    case round =>
      obtain ⟨j, hj, rfl, Hj⟩ := hrel
      by_cases hlt : j < ss.length
      · obtain ⟨g, off, rfl, hc⟩ := HA.out.resolve_left (by intro e; rw [e] at hlt; simp at hlt)
        obtain ⟨s, hs⟩ : ∃ s, ss[j]? = some s := ⟨ss[j], by simp [hlt]⟩
        have c0 := cell_later Hj.out.old (hc j s hs)
        have htk : l ++ listTks 0 (ss.take (j + 1)) = l ++ listTks 0 (ss.take j) ++ [markTk (if j = 0 then 91 else 44)] ++ [strTk s] := by
          rw [List.take_add_one, hs, Option.toList_some, listTks_append, List.length_take, Nat.min_eq_left hj]
          simp [listTks]
        have hln : (l ++ listTks 0 (ss.take j)).length + 2 ≤ 900000 := by
          rw [List.length_append, listTks_len, List.length_take]; omega
        have Htk := Lib.hid htk
        generalize l ++ listTks 0 (ss.take j) = lj at *
        have hF := Bk.new wr [.string ⟨#[44]⟩, .string ⟨#[91]⟩] 9
        have hS1 := Hj.out.alloc (.cells #[.string ⟨#[44]⟩, .string ⟨#[91]⟩] 9)
        have f0 := hF.cell 0 _ rfl
        have f1 := hF.cell 1 _ rfl
        have HS1 := Lib.hid hS1
        have hj0 : (0 : Int) ≤ (j : Int) := by omega
        have hjn : (j : Int) < (ss.length : Int) := by omega
        clear hF hS1 htk hc hs
        by_cases hz : j = 0
        · have ez : ((j : Int) == 0) = true := by rw [hz]; rfl
          rw [if_pos hz] at Htk
          clear hz
          have hp := put_calls B c lj 5 ⟨#[91]⟩ _ HS1.out.wr (by omega)
          have Hp := Lib.hid hp
          clear hp
          go_wp2_with (go_at_call 67; refine (flag_calls _ _).mono ?_; rintro e w' ⟨rfl, rfl⟩)
          refine Hp.out.mono ?_
          rintro e W1 ⟨rfl, hw1, ht1⟩
          have hp2 := put_calls B c (lj ++ [⟨5, ⟨#[91]⟩, 0⟩]) 4 s W1 hw1 (by rw [List.length_append, List.length_singleton]; omega)
          have Hp2 := Lib.hid hp2
          have HS2 := Lib.hid (HS1.out.put hB hw1 ht1)
          clear hp2 hw1 ht1 f0 f1 c0
          go_wp2_with fail
          refine Hp2.out.mono ?_
          rintro e W2 ⟨rfl, hw2, ht2⟩
          have HS3 := Lib.hid (HS2.out.put hB hw2 ht2)
          clear hw2 ht2
          go_wp2_with fail
          go_roundw
          case rel => exact ⟨j + 1, by omega, by go_num, Lib.hid (by rw [Htk.out]; exact HS3.out)⟩
          case measure => simp [intOf]; omega
        · have ez : ((j : Int) == 0) = false := by rw [beq_eq_false_iff_ne]; omega
          rw [if_neg hz] at Htk
          clear hz
          have hp := put_calls B c lj 5 ⟨#[44]⟩ _ HS1.out.wr (by omega)
          have Hp := Lib.hid hp
          clear hp
          go_wp2_with (go_at_call 67; refine (flag_calls _ _).mono ?_; rintro e w' ⟨rfl, rfl⟩)
          refine Hp.out.mono ?_
          rintro e W1 ⟨rfl, hw1, ht1⟩
          have hp2 := put_calls B c (lj ++ [⟨5, ⟨#[44]⟩, 0⟩]) 4 s W1 hw1 (by rw [List.length_append, List.length_singleton]; omega)
          have Hp2 := Lib.hid hp2
          have HS2 := Lib.hid (HS1.out.put hB hw1 ht1)
          clear hp2 hw1 ht1 f0 f1 c0
          go_wp2_with fail
          refine Hp2.out.mono ?_
          rintro e W2 ⟨rfl, hw2, ht2⟩
          have HS3 := Lib.hid (HS2.out.put hB hw2 ht2)
          clear hw2 ht2
          go_wp2_with fail
          go_roundw
          case rel => exact ⟨j + 1, by omega, by go_num, Lib.hid (by rw [Htk.out]; exact HS3.out)⟩
          case measure => simp [intOf]; omega
      · obtain rfl : j = ss.length := by omega
        have hS := Hj.out
        rw [List.take_length] at hS
        have hp := put_calls B c (l ++ listTks 0 ss) 5 ⟨#[93]⟩ wr hS.wr (by rw [List.length_append, listTks_len]; omega)
        have Hp := Lib.hid hp
        have HS := Lib.hid hS
        clear hp hS hlt
        go_wp2_with fail
        refine Hp.out.mono ?_
        rintro e W1 ⟨rfl, hw1, ht1⟩
        have Hw1 := Lib.hid hw1
        have Ht1 := Lib.hid (HS.out.tw.trans ht1)
        clear hw1 ht1
        go_wp2_with fail
        go_end0
        exact ⟨rfl, by rw [Hlk.out, ← List.append_assoc]; exact Hw1.out, Ht1.out⟩
end Go.Proofs.YtgmnoemkdigafaaDoor
