/- A message is parsed as it was shown: for every list of lines and every body. -/
import Derived.Test.YtlbibklbckabnaaDoorLetLaw2
namespace Go.Proofs.YtlbibklbckabnaaDoor
open Go.RowKit
set_option linter.unusedVariables false

theorem showR_small {F : List Fld} {body : List UInt8} (h : (showL F body).length ≤ 2000) : showR F body = (mkS (showL F body), 0) := by
  unfold showR; rw [if_neg (by omega)]
theorem chkR_small {n : Nat} (h : n ≤ 2000) : chkR n = 0 := by
  unfold chkR; rw [if_neg (by omega)]
set_option maxRecDepth 100000 in
set_option maxHeartbeats 8000000 in
theorem letterBack_walk (x : List Fld) (A : Option Addr) (c : Nat) (body : ByteArray) (m : Int) (w : World) (hx : x.length ≤ 9223372036854775807) (hA : kLin.Row w A x) (hbs : body.size ≤ 9223372036854775807) (hm : w.cell? ⟨0, 0, none⟩ = some (.int .i64 m)) :
    Calls Tryd.prog 9 #[.slice A x.length c, .string body] w fun e w' => e = .returned (.bool true) ∧ Below w.heap.size w w' := by
  go_enter Tryd.func9, Tryd.ntmps9
  go_wp2_with fail
  refine (message_calls x A c body w hx hA hbs).mono ?_
  rintro e w1 ⟨v, rfl, hrow, hb1⟩
  have hmay := fieldsOf_may x
  have hn := fieldsOf_len x
  have hfl := fieldsOf_fldsL x
  obtain ⟨A2, c2, rfl, hlin⟩ := ownsRow_lin hrow rfl (fieldsOf_small x)
  have hsm := fieldsOf_small x
  have hbz := cutS_size body 200
  generalize cutS body 200 = s at *
  generalize fieldsOf x = F at *
  have hlen : (showL F (bs s)).length ≤ 600 := by rw [showL_len, bs_len]; omega
  have hlen2 : 2 ≤ (showL F (bs s)).length := by rw [showL_len]; omega
  have hmay2 := hmay
  have Hsm := Lib.hid hsm
  have Hmay := Lib.hid hmay
  have Hn := Lib.hid hn
  have hm1 := cell_later hb1 hm
  have hbz1 := hb1.size
  clear hrow hA hmay hmay2 hsm hn hfl hm
  have hb2 : Below w1.heap.size w1 (w1.alloc (.cells #[.slice A2 F.length c2, .string s] 45)) := (Below.refl _ w1).alloc (Nat.le_refl _) _
  have hM2 : MB (w1.alloc (.cells #[.slice A2 F.length c2, .string s] 45)) w1.heap.size (.slice A2 F.length c2) s := World.alloc_heap_new w1 _
  have hlin2 := hlin.later hb2
  have hm2 := cell_later hb2 hm1
  have hbw2 := hb1.trans (hb2.mono hbz1)
  have hsz2 := hbw2.size
  have hsh := show_msg F A2 c2 s m _ hlin2 Hmay.out (by have := Hn.out; omega) (by omega) hm2
  rw [showR_small (by omega)] at hsh
  have HSh := Lib.hid hsh
  clear hb1 hb2 hm1 hlin hsh
  go_wp2_with fail
  generalize w1.alloc (.cells #[.slice A2 F.length c2, .string s] 45) = w2 at *
  refine HSh.out.mono ?_
  rintro e w3 ⟨rfl, hb3⟩
  have hM3 := hM2.below hb3 hM2.lt
  have hlin3 := hlin2.later hb3
  have hm3 := cell_later hb3 hm2
  have hbw3 := hbw2.trans (hb3.mono hsz2)
  have hsz3 := hbw3.size
  have hps := mkS_size (showL F (bs s))
  have hpa : parseL ((mkS (showL F (bs s))).size + 1) 0 [] (bs (mkS (showL F (bs s)))) = .ok F (bs s) := by
    rw [bs_mkS]
    exact parse_showL F _ (bs s) Hmay.out (by have := Hn.out; omega) (by have := showL_ge F (bs s); rw [hps]; omega)
  have hlt := hM3.lt
  have hpz : (mkS (showL F (bs s))).size ≤ 2000 := by rw [hps]; omega
  have hpz2 : 2 ≤ (mkS (showL F (bs s))).size := by rw [hps]; exact hlen2
  have hp2 : (2 : Int) ≤ ((mkS (showL F (bs s))).size : Int) := by omega
  have hpc := parse_calls (mkS (showL F (bs s))) m w3 hpz hm3 _ hpa
  have HPc := Lib.hid hpc
  have Hl := Lib.hid hlen
  clear hM2 hlin2 hm2 hbw2 hb3 HSh hpa hpc hps hlen hlen2
  generalize mkS (showL F (bs s)) = p at *
  go_wp2_with fail
  refine HPc.out.mono ?_
  rintro e w4 ⟨hb4, v4, rfl, hrow4⟩
  obtain ⟨A4, c4, rfl, hlin4⟩ := ownsRow_lin hrow4 rfl Hsm.out
  rw [mkS_bs]
  have hM4 := hM3.below hb4 hM3.lt
  have hlinA := hlin3.later hb4
  have hm4 := cell_later hb4 hm3
  have hbw4 := hbw3.trans (hb4.mono hsz3)
  have hsz4 := hbw4.size
  have hb5 : Below w4.heap.size w4 (w4.alloc (.cells #[.slice A4 F.length c4, .string s] 45)) := (Below.refl _ w4).alloc (Nat.le_refl _) _
  have hM5 := hM4.below hb5 hM4.lt
  have hN5 : MB (w4.alloc (.cells #[.slice A4 F.length c4, .string s] 45)) w4.heap.size (.slice A4 F.length c4) s := World.alloc_heap_new w4 _
  have hlin5 := hlinA.later hb5
  have hlin45 := hlin4.later hb5
  have hm5 := cell_later hb5 hm4
  have hbw5 := hbw4.trans (hb5.mono hsz4)
  have hsz5 := hbw5.size
  have a0 := hM5.c0
  have a1 := hM5.c1
  have b0 := hN5.c0
  have b1 := hN5.c1
  have hsame := same_msg F A2 A4 c2 c4 s _ hlin5 hlin45 (by have := Hn.out; omega)
  have HSame := Lib.hid hsame
  have HM5 := Lib.hid hM5
  clear HPc hM3 hlin3 hm3 hbw3 hb4 hrow4 hM4 hlinA hlin4 hm4 hbw4 hb5 hN5 hlin45 hsame hM5
  go_wp2_with fail
  generalize w4.alloc (.cells #[.slice A4 F.length c4, .string s] 45) = w5 at *
  refine HSame.out.mono ?_
  rintro e w6 ⟨rfl, hb6⟩
  have hM6 := HM5.out.below hb6 HM5.out.lt
  have e0 := hM6.c0
  have e1 := hM6.c1
  have hbw6 := hbw5.trans (hb6.mono hsz5)
  have hck := check_msg F A2 c2 s m w6 (hlin5.later hb6) Hmay.out (by have := Hn.out; omega) (by have := Hl.out; omega) (cell_later hb6 hm5)
  rw [chkR_small (by have := Hl.out; omega)] at hck
  have HCk := Lib.hid hck
  have Hbw6 := Lib.hid hbw6
  clear HSame hb6 hM6 hck hbw6 hbw5 hlin5 hm5
  go_wp2_with fail
  refine HCk.out.mono ?_
  rintro e w7 ⟨rfl, hb7⟩
  have Hb7 := Lib.hid (Hbw6.out.trans (hb7.mono Hbw6.out.size))
  clear HCk hb7
  go_wp2
  go_ret
  exact ⟨rfl, Hb7.out⟩
end Go.Proofs.YtlbibklbckabnaaDoor
