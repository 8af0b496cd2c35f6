/- A list has room for so many: for every whole number. -/
import Derived.Test.YtlbibklbckabnaaDoorWhoList2
namespace Go.Proofs.YtlbibklbckabnaaDoor
open Go.RowKit

/-- So many addresses, with commas between. -/
def fullL : Nat → List UInt8
  | 0 => []
  | k + 1 => if k = 0 then [97, 64, 98] else fullL k ++ [44, 97, 64, 98]
theorem fullL_len : ∀ k, (fullL (k + 1)).length = 4 * k + 3 := by
  intro k
  induction k with
  | zero => rfl
  | succ k ih => rw [fullL, if_neg (by omega), List.length_append, ih]; simp; omega
theorem fullL_list (k : Nat) (hk : k < 41) : (listL ((mkS (fullL k)).size + 1) ((mkS (fullL k)).size + 1) (bs (mkS (fullL k)))).map List.length = if k = 0 then none else some k := by
  have h : ∀ k : Fin 41, (listL ((mkS (fullL k.val)).size + 1) ((mkS (fullL k.val)).size + 1) (bs (mkS (fullL k.val)))).map List.length = if k.val = 0 then none else some k.val := by decide +kernel
  exact h ⟨k, hk⟩

set_option maxRecDepth 100000 in
set_option maxHeartbeats 4000000 in
theorem whoFull_walk (n m : Int) (w : World) (hn : (Lit.int .i64 n).wf = true) (hm : w.cell? ⟨0, 0, none⟩ = some (.int .i64 m)) :
    Calls Tryd.prog 4 #[.int .i64 n] w fun e w' => e = .returned (.bool true) ∧ Below w.heap.size w w' := by
  have hp := pickN_lt n 40 (by omega)
  go_enter Tryd.func4, Tryd.ntmps4
  go_wp2_with fail
  refine (picked_calls n 40 _ hn (by decide) (by decide)).mono ?_
  rintro e w' ⟨rfl, rfl⟩
  generalize pickN n 40 = k at hp
  go_wp2_with fail
  go_loop [4, 5] (fun v i => ∃ j : Nat, j ≤ k + 1 ∧ i = .int .i64 j ∧ v = .string (mkS (fullL j))) (fun _ i => k + 1 - (intOf i).toNat)
  case atStart => exact ⟨0, by omega, rfl, rfl⟩
  case round =>
    obtain ⟨j, hj, rfl, rfl⟩ := hrel
    by_cases hlt : j < k + 1
    · by_cases h0 : j = 0
      · subst h0
        rw [show mkS (fullL 0) = (⟨#[]⟩ : ByteArray) from rfl]
        go_wp2
        go_round
        case rel => exact ⟨1, by omega, rfl, rfl⟩
        case measure => simp [intOf]
      · obtain ⟨j, rfl⟩ : ∃ q, j = q + 1 := ⟨j - 1, by omega⟩
        have hsz : (mkS (fullL (j + 1))).size ≤ 200 := by rw [mkS_size, fullL_len]; omega
        have hnew : mkS (fullL (j + 1)) ++ mkS [44] ++ mkS [97, 64, 98] = mkS (fullL (j + 1 + 1)) := by
          apply bs_inj
          rw [bs_append, bs_append, bs_mkS, bs_mkS, bs_mkS, bs_mkS, List.append_assoc]
          show _ = (if j + 1 = 0 then _ else fullL (j + 1) ++ [44, 97, 64, 98])
          rw [if_neg (by omega)]; rfl
        have Hnew := Lib.hid hnew
        have hs2 : (mkS (fullL (j + 1)) ++ mkS [44]).size ≤ 201 := by
          rw [append_mkS, mkS_size, List.length_append, bs_len]
          have : (bs (mkS [44])).length = 1 := rfl
          omega
        clear hnew
        generalize mkS (fullL (j + 1)) = p at *
        go_wp2
        go_round
        case rel => exact ⟨j + 1 + 1, by omega, by go_num, by rw [← Hnew.out]; rfl⟩
        case measure => simp [intOf]; omega
    · obtain rfl : j = k + 1 := by omega
      have hlen := fullL_list (k + 1) (by omega)
      have hs : (mkS (fullL (k + 1))).size ≤ 2000 := by rw [mkS_size, fullL_len]; omega
      obtain ⟨R, hR⟩ : ∃ R, listL ((mkS (fullL (k + 1))).size + 1) ((mkS (fullL (k + 1))).size + 1) (bs (mkS (fullL (k + 1)))) = R := ⟨_, rfl⟩
      rw [hR, if_neg (by omega)] at hlen
      have Hl := Lib.hid (list_calls (mkS (fullL (k + 1))) m w hs hm R hR)
      clear hR hs
      generalize mkS (fullL (k + 1)) = p at *
      cases R with
      | none => cases hlen
      | some l =>
        have hll : l.length = k + 1 := by simpa using hlen
        clear hlen
        go_wp2_with fail
        refine Hl.out.mono ?_
        rintro e w1 ⟨v, err, rfl, hb, hok⟩
        clear Hl
        dsimp only at hok
        by_cases h20 : 20 < l.length
        · rw [if_pos h20] at hok
          obtain ⟨rfl, rfl⟩ := hok
          go_wp2
          go_ret
          exact ⟨rfl, hb⟩
        · rw [if_neg h20, hll] at hok
          obtain ⟨rfl, hrow⟩ := hok
          obtain ⟨g, c, rfl⟩ := own_pos hrow
          go_wp2
          go_ret
          exact ⟨show Ending.returned (.bool ((k : Int) + 1 == 1 + (k : Int))) = _ by rw [Int.add_comm, beq_self_eq_true], hb⟩
end Go.Proofs.YtlbibklbckabnaaDoor
