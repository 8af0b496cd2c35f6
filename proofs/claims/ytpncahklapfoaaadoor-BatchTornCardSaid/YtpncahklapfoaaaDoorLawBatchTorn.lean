/- What is torn is no batch: for every list of raw numbers and every place. -/
import Derived.Test.YtpncahklapfoaaaDoorBatLaw
import Derived.Outline
namespace Go.Proofs.YtpncahklapfoaaaDoor
open Go.RowKit
set_option linter.unusedVariables false

set_option maxRecDepth 100000 in
set_option maxHeartbeats 2000000 in
theorem batchTorn_walk (x : List Chr) (A : Option Addr) (c : Nat) (at' m : Int) (w : World) (hx : x.length ≤ 9223372036854775807) (hA : kChr.Row w A x) (hat : (Lit.int .i64 at').wf = true) (hm : w.cell? ⟨0, 0, none⟩ = some (.int .i64 m)) :
    Calls Tryd.prog 5 #[.slice A x.length c, .int .i64 at'] w fun e w' => e = .returned (.bool true) ∧ Below w.heap.size w w' := by
  go_enter Tryd.func5, Tryd.ntmps5
  go_wp2_with fail
  refine (batchOf_calls x A c 0 w hx hA (by decide)).mono ?_
  rintro e w1 ⟨v, rfl, hrow, hb1⟩
  obtain ⟨A2, c2, rfl⟩ := own_sliceE hrow
  have hm1 := cell_later hb1 hm
  have hes := ownsRow_ents hrow rfl
  clear hrow hA hm
  go_wp2_with fail
  refine (enc_bat x 0 A2 c2 m w1 hes hm1).mono ?_
  rintro e w2 ⟨A3, c3, rfl, hrow2, hb2⟩
  have hm2 := cell_later hb2 hm1
  have hb3 := hb1.trans (hb2.mono hb1.size)
  have hl := batN_len _ _ (bat_check x 0)
  have hl2 := batN_len2 (pickN 0 3) (batE x)
  have htorn := dec_torn _ _ (bat_check x 0)
  have hbs := bs_of_own hrow2 rfl
  have hc3 := own_cap hrow2
  clear hrow2 hes hm1 hb1 hb2
  generalize batN (pickN 0 3) (batE x) = L at *
  have Ht := Lib.hid htorn
  clear htorn
  have hp0 : (0 : Int) < (L.length : Int) := by omega
  have hp1 : (1 : Int) ≤ (L.length : Int) := by omega
  have hk := pickN_lt at' (L.length : Int) hp0
  have hpk := picked_calls at' (L.length : Int) w2 hat hp0 (by omega)
  go_wp2_with fail
  rw [Int.max_eq_left hp1]
  refine hpk.mono ?_
  rintro e w3 ⟨rfl, rfl⟩
  generalize pickN at' (L.length : Int) = k at *
  have hkl : k < L.length := by omega
  have hR := Ht.out k hkl
  have hln : (L.take k).length = k := by rw [List.length_take]; omega
  have hdc := decode_calls A3 c3 (L.take k) m w2 (hbs.take k) (by omega) hm2
  rw [hln] at hdc
  have Hdc := Lib.hid hdc
  have HR := Lib.hid hR
  have hk0 : (0 : Int) ≤ (k : Int) := by omega
  have hkc : (k : Int) ≤ (c3 : Int) := by omega
  clear hdc hR hbs hm2 Ht hpk hln
  obtain ⟨b3, rfl⟩ : ∃ b3, A3 = b3 := ⟨_, rfl⟩
  go_wp2_with fail
  refine Hdc.out.mono ?_
  rintro e w4 ⟨u4, v4, rfl, hb4, hif⟩
  have hr := HR.out
  rw [if_neg (by rw [hr]; decide)] at hif
  obtain ⟨rfl, rfl⟩ := hif
  rw [hr]
  have hb5 := (hb3.trans (hb4.mono hb3.size))
  have Hb5 := Lib.hid (hb5.alloc hb5.size (.cells #[.int .i64 0, .slice none 0 0] 25))
  clear hb4 hb5 hb3 Hdc hr HR
  go_wp2
  go_ret
  exact ⟨rfl, Hb5.out⟩
end Go.Proofs.YtpncahklapfoaaaDoor
