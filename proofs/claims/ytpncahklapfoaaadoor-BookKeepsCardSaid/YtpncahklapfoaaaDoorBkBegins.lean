/- The helper begins of the statements: what it returns. -/
import Derived.Test.YtpncahklapfoaaaDoorBats
namespace Go.Proofs.YtpncahklapfoaaaDoor
open Go.RowKit
set_option linter.unusedVariables false

set_option maxRecDepth 100000 in
set_option maxHeartbeats 2000000 in
theorem begins_calls (la lb : List BatS) (A B : Option Addr) (c d : Nat) (w : World) (hA : BatsAt w A la) (hB : BatsAt w B lb) (hp : ∀ (k : Nat) b, la[k]? = some b → lb[k]? = some b) (hlb : la.length ≤ lb.length) (hl : lb.length ≤ 1000) (he : ∀ b ∈ la, b.es.length ≤ 1000) :
    Calls Tryd.prog 20 #[.slice A la.length c, .slice B lb.length d] w fun e w' => e = .returned (.bool true) ∧ Below w.heap.size w w' := by
  have hle : ¬ (lb.length : Int) < (la.length : Int) := by omega
  have He := Lib.hid he
  have Hp := Lib.hid hp
  clear he hp
  go_enter Tryd.func20, Tryd.ntmps20
  go_wp2_with fail
  go_loopw [5] (fun i wr => ∃ k : Nat, k ≤ la.length ∧ i = .int .i64 k ∧ Hid (Below w.heap.size w wr)) (fun i _ => la.length - (intOf i).toNat)
  case atStart => exact ⟨0, Nat.zero_le _, rfl, Lib.hid (Below.refl _ _)⟩
  case round =>
    obtain ⟨k, hk, rfl, Hb⟩ := hrel
    by_cases hlt : k < la.length
    · have hd := bdr wr
      have hga : la[k]? = some la[k] := by simp [hlt]
      obtain ⟨g, off, Ae, ce, rfl, c0, c1, hea⟩ := (hA.later Hb.out).later hd k la[k] hga
      obtain ⟨g2, off2, Be, de, rfl, d0, d1, heb⟩ := (hB.later Hb.out).later hd k la[k] (Hp.out k _ hga)
      have hem := He.out la[k] (List.getElem_mem hlt)
      generalize la[k] = b at *
      obtain ⟨u, es⟩ := b
      simp only at c0 c1 d0 d1 hea heb hem
      have hsm := fun W (hW : Below wr.drew.heap.size wr.drew W) => same_batch u es Ae Be ce de W (hea.later hW) (heb.later hW) (by omega)
      have hmk := fun (W : World) (hW : Below wr.drew.heap.size wr.drew W) => And.intro (cell_later hW c0) (And.intro (cell_later hW c1) (And.intro (cell_later hW d0) (And.intro (cell_later hW d1) hW)))
      have Hmk := Lib.hid hmk
      have Hsm := Lib.hid hsm
      have Hdd := Lib.hid hd
      have hk0 : (0 : Int) ≤ (k : Int) := by omega
      have hkn : (k : Int) < (la.length : Int) := by omega
      have hkm : (k : Int) < (lb.length : Int) := by omega
      have hKK := Hmk.out wr.drew (Below.refl _ _)
      clear hmk hsm hea heb c0 c1 d0 d1 hA hB hga hd
      go_wp2_with fail
      go_region_held3 (fun W => W.cell? ⟨g, off + k * 2, none⟩ = some (.int .i64 u) ∧ W.cell? ⟨g, off + k * 2 + 1, none⟩ = some (.slice Ae es.length ce) ∧ W.cell? ⟨g2, off2 + k * 2, none⟩ = some (.int .i64 u) ∧ W.cell? ⟨g2, off2 + k * 2 + 1, none⟩ = some (.slice Be es.length de) ∧ Below wr.drew.heap.size wr.drew W) (first | exact hKK)
        (first | (go_at_call 14; (with_reducible refine (Hsm.out _ ?_).mono ?_); exact k4 (by first | assumption | exact hS); rintro e w5 ⟨rfl, hb5⟩; have hKK := Hmk.out w5 (btr (k4 (by first | assumption | exact hS)) hb5)))
      have Hb6 := Lib.hid (btr Hb.out (btr Hdd.out (k4 hKK)))
      clear hKK
      go_wp2_with fail
      go_roundw
      case rel => exact ⟨k + 1, by omega, by go_num, Hb6⟩
      case measure => simp [intOf]; omega
    · obtain rfl : k = la.length := by omega
      clear hA hB
      go_wp2_with fail
      go_ret
      exact ⟨rfl, Hb.out⟩
end Go.Proofs.YtpncahklapfoaaaDoor
