/- The function glob.matches: it returns whether the text matches the pieces, for every text and every row of pieces of bounded length. -/
import Derived.Test.YtokeblpdaomagaaDoorGlobPlain
import Derived.Test.YtokeblpdaomagaaDoorProg
import Derived.WalkKit
import Derived.KernelRfl
import Derived.Below
import Derived.Deep.QuietTactic
import Derived.BigQuiet
import Derived.Lib.Hide
namespace Go.Proofs.YtokeblpdaomagaaDoor
open Go.RowKit

/-- Pieces in memory, from the head of a block on. -/
def PcAt (w : World) (b : Nat) (l : List Pc) : Prop :=
  ∀ j, (h : j < l.length) → w.cell? ⟨b, j * 3, none⟩ = some (.int .u8 l[j].c.toNat) ∧ w.cell? ⟨b, j * 3 + 1, none⟩ = some (.bool l[j].one) ∧ w.cell? ⟨b, j * 3 + 2, none⟩ = some (.bool l[j].many)

set_option maxRecDepth 100000 in
set_option maxHeartbeats 2000000 in
theorem matches_calls (s : ByteArray) (l : List Pc) (A : Option Addr) (c : Nat) (w : World) (hs : s.size ≤ 100000) (hl : l.length ≤ 100000) (hA : (A = none ∧ l = []) ∨ ∃ b, A = some ⟨b, 0, none⟩ ∧ PcAt w b l) :
    Calls Tryd.prog 47 #[.string s, .slice A l.length c] w fun e w' => e = .returned (.bool (mt s.data.toList l)) ∧ ∃ n, w' = w.drewN n := by
  go_enter Tryd.func47, Tryd.ntmps47
  go_wp2
  go_loopw [5, 6, 7, 8] (fun vi vk vs vf wr => ∃ (i k : Nat) (st : Int) (f : Nat), vi = .int .i64 i ∧ vk = .int .i64 k ∧ vs = .int .i64 st ∧ vf = .int .i64 f ∧ -1 ≤ st ∧ st < k ∧ f ≤ i ∧ MInv s.data.toList l i k st f ∧ ∃ n, wr = w.drewN n)
    (fun vi _ vs vf _ => mleft s.size l.length (intOf vi).toNat (intOf vs) (intOf vf).toNat)
  case atStart => exact ⟨0, 0, -1, 0, rfl, rfl, rfl, rfl, by omega, by omega, Nat.le_refl _, MInv.begin_ _ _, 0, rfl⟩
  case round =>
    obtain ⟨i, k, st, f, rfl, rfl, rfl, rfl, hst1, hst2, hfi, hinv, nq, rfl⟩ := hrel
    have hi := hinv.i_le
    have hkl := hinv.k_le
    have hsz : s.data.toList.length = s.size := rfl
    rw [hsz] at hi
    clear hsz
    by_cases hlt : i < s.size
    · by_cases hk : k < l.length
      · obtain ⟨b, rfl, hc⟩ : ∃ b, A = some ⟨b, 0, none⟩ ∧ PcAt w b l := by
          rcases hA with ⟨_, rfl⟩ | h
          · simp at hk
          · exact h
        obtain ⟨c0, c1, c2⟩ := hc k hk
        clear hc hA
        cases hm : l[k].many with
        | true =>
          have hnew := hinv.star hk hm
          have hmes := mleft_star (f := f) hk hst2 hst1 hi
          rw [hm] at c2
          clear hm
          go_wp2
          go_roundw
          case rel => exact ⟨i, k + 1, k, i, by go_num, by go_num, by go_num, by go_num, by omega, by omega, Nat.le_refl _, hnew, nq, rfl⟩
          case measure => simpa [intOf] using hmes
        | false =>
          rw [hm] at c2
          by_cases ho : (l[k].one || l[k].c == s.data.toList[i]) = true
          · have hnew := hinv.step hlt hk hm ho
            have hmes := mleft_step (m := l.length) (f := f) (st := st) hlt
            cases hone : l[k].one with
            | true =>
              rw [hone] at c1
              clear hm ho hone
              go_wp2
              go_quiet (fail)
              go_wp2
              go_roundw
              case rel => exact ⟨i + 1, k + 1, st, f, by go_num, by go_num, by go_num, by go_num, by omega, by omega, by omega, hnew, _, rfl⟩
              case measure => simpa [intOf] using hmes
            | false =>
              have hb : ((l[k].c.toNat : Int) == (s[i].toNat : Int)) = true := by
                rw [hone, Bool.false_or, beq_iff_eq] at ho
                rw [ho, beq_iff_eq]; rfl
              rw [hone] at c1
              clear hm ho hone
              go_wp2
              go_quiet (fail)
              go_wp2
              go_roundw
              case rel => exact ⟨i + 1, k + 1, st, f, by go_num, by go_num, by go_num, by go_num, by omega, by omega, by omega, hnew, _, rfl⟩
              case measure => simpa [intOf] using hmes
          · have ho' : (l[k].one || l[k].c == s.data.toList[i]) = false := by simpa using ho
            have hno := MInv.no (s := s.data.toList) (l := l) hlt (.inr ⟨hk, hm, ho'⟩)
            have hone : l[k].one = false := by
              rw [Bool.or_eq_false_iff] at ho'; exact ho'.1
            have hb : ((l[k].c.toNat : Int) == (s[i].toNat : Int)) = false := by
              rw [Bool.or_eq_false_iff, beq_eq_false_iff_ne] at ho'
              rw [beq_eq_false_iff_ne]
              intro e
              exact ho'.2 (UInt8.toNat_inj.1 (Int.ofNat.inj e))
            rw [hone] at c1
            clear hm ho ho' hone
            by_cases hq : 0 ≤ st
            · obtain ⟨q, rfl⟩ := Int.eq_ofNat_of_zero_le hq
              have hnew := hinv.back hlt hno
              have hmes := mleft_back (m := l.length) (st := q) hlt hfi
              clear hno
              go_wp2
              go_quiet (fail)
              go_wp2
              go_roundw
              case rel => exact ⟨f + 1, q + 1, q, f + 1, by go_num, by go_num, by go_num, by go_num, by omega, by omega, by omega, hnew, _, rfl⟩
              case measure => simpa [intOf] using hmes
            · obtain rfl : st = -1 := by omega
              have hr := hinv.fail hno
              clear hno
              have Hr := Lib.hid hr
              clear hr
              go_wp2
              go_quiet (fail)
              go_wp2
              go_ret
              exact ⟨by rw [Hr.out]; rfl, _, rfl⟩
      · have hno := MInv.no (s := s.data.toList) (l := l) (k := k) hlt (.inl (by omega))
        by_cases hq : 0 ≤ st
        · obtain ⟨q, rfl⟩ := Int.eq_ofNat_of_zero_le hq
          have hnew := hinv.back hlt hno
          have hmes := mleft_back (m := l.length) (st := q) hlt hfi
          clear hno hA
          go_wp2
          go_quiet (fail)
          go_wp2
          go_roundw
          case rel => exact ⟨f + 1, q + 1, q, f + 1, by go_num, by go_num, by go_num, by go_num, by omega, by omega, by omega, hnew, _, rfl⟩
          case measure => simpa [intOf] using hmes
        · obtain rfl : st = -1 := by omega
          have hr := hinv.fail hno
          clear hno hA
          have Hr := Lib.hid hr
          clear hr
          go_wp2
          go_quiet (fail)
          go_wp2
          go_ret
          exact ⟨by rw [Hr.out]; rfl, _, rfl⟩
    · obtain rfl : i = s.size := by omega
      have hr := hinv.end_
      have Hr := Lib.hid hr
      clear hr hinv
      go_wp2
      go_loop [6] (fun vk => ∃ j : Nat, vk = .int .i64 j ∧ k ≤ j ∧ j ≤ l.length ∧ (l.drop k).all (·.many) = (l.drop j).all (·.many)) (fun vk => l.length - (intOf vk).toNat)
      case atStart => exact ⟨k, rfl, Nat.le_refl _, hkl, rfl⟩
      case round =>
        obtain ⟨j, rfl, hkj, hj, he⟩ := hrel
        have He := Lib.hid he
        clear he
        by_cases hjl : j < l.length
        · obtain ⟨b, rfl, hc⟩ : ∃ b, A = some ⟨b, 0, none⟩ ∧ PcAt w b l := by
            rcases hA with ⟨_, rfl⟩ | h
            · simp at hjl
            · exact h
          obtain ⟨c0, c1, c2⟩ := hc j hjl
          clear hc hA
          cases hm : l[j].many with
          | true =>
            have he : (l.drop k).all (·.many) = (l.drop (j + 1)).all (·.many) := by
              rw [He.out, List.drop_eq_getElem_cons hjl, List.all_cons, hm, Bool.true_and]
            have He' := Lib.hid he
            rw [hm] at c2
            clear hm he
            go_wp2
            go_round
            case rel => exact ⟨j + 1, by go_num, by omega, by omega, He'.out⟩
            case measure => simp [intOf]; omega
          | false =>
            have he : mt s.data.toList l = false := by
              rw [Hr.out, He.out, List.drop_eq_getElem_cons hjl, List.all_cons, hm, Bool.false_and]
            have He' := Lib.hid he
            have hne : ((j : Int) == (l.length : Int)) = false := by
              rw [beq_eq_false_iff_ne]; omega
            rw [hm] at c2
            clear hm he
            go_wp2
            go_ret
            exact ⟨by rw [He'.out]; rfl, _, rfl⟩
        · obtain rfl : j = l.length := by omega
          have he : mt s.data.toList l = true := by
            rw [Hr.out, He.out, List.drop_length]; rfl
          have He' := Lib.hid he
          clear he hA
          go_wp2
          go_ret
          exact ⟨by rw [He'.out]; rfl, _, rfl⟩
end Go.Proofs.YtokeblpdaomagaaDoor
