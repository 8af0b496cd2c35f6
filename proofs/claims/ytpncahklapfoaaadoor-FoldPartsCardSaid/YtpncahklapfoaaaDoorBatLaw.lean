/- What the laws on batches share: a batch of raw numbers is encoded; bytes of the call's own are decoded. -/
import Derived.Test.YtpncahklapfoaaaDoorBatW
import Derived.Test.YtpncahklapfoaaaDoorDecode
import Derived.Test.YtpncahklapfoaaaDoorBatPlain
namespace Go.Proofs.YtpncahklapfoaaaDoor
open Go.RowKit
set_option linter.unusedVariables false

theorem u8s_len (l : List UInt8) : (u8s l).length = l.length := by simp [u8s]
theorem u8s_get (l : List UInt8) (i : Nat) (h : i < l.length) : (u8s l)[i]? = some (.int .u8 (l[i].toNat : Int)) := by simp [u8s, h]
theorem bs_of_own {w : World} {base n c : Nat} {A : Option Addr} {l : List UInt8} (h : w.ownsRow base 5 1 (.slice A n c) l.length (u8s l)) (hn : n = l.length) : BS w w.heap.size A c l := by
  subst hn
  refine ⟨own_cap h, ?_⟩
  rcases h.2 with ⟨h1, h2⟩ | ⟨g, cap, cur, h1, hb, hg, _⟩
  · obtain ⟨rfl, _, rfl⟩ := Value.slice.inj h1
    exact .inl ⟨rfl, rfl⟩
  · obtain ⟨rfl, _, rfl⟩ := Value.slice.inj h1
    refine .inr ⟨g, 0, rfl, (Array.getElem?_eq_some_iff.1 hg).1, fun i hi => ?_⟩
    have h3 := h.cellAt i (by omega)
    rw [u8s_get l i hi] at h3
    rw [Nat.zero_add]
    exact h3
theorem BS.take {w : World} {B c : Nat} {A : Option Addr} {l : List UInt8} (h : BS w B A c l) (k : Nat) : BS w B A c (l.take k) := by
  obtain ⟨h0, h⟩ := h
  refine ⟨by rw [List.length_take]; omega, ?_⟩
  rcases h with h | ⟨b, off, e, hb, hc⟩
  · exact .inl h
  · refine .inr ⟨b, off, e, hb, fun i hi => ?_⟩
    rw [List.getElem_take]
    exact hc i (by rw [List.length_take] at hi; omega)
theorem batN_len2 (u : Int) (es : List Ent) : 2 ≤ (batN u es).length := by unfold batN; simp
/-- A batch of raw numbers, encoded. -/
theorem enc_bat (x : List Chr) (u : Int) (A : Option Addr) (c : Nat) (m : Int) (w : World) (hA : EsAt w A (batE x)) (hm : w.cell? ⟨0, 0, none⟩ = some (.int .i64 m)) :
    Calls Tryd.prog 12 #[.agg #[.int .i64 (pickN u 3), .slice A (batE x).length c]] w fun e w' => ∃ A2 c2, e = .returned (.tuple #[.slice A2 (batN (pickN u 3) (batE x)).length c2, .int .i64 0]) ∧ w'.ownsRow w.heap.size 5 1 (.slice A2 (batN (pickN u 3) (batE x)).length c2) (batN (pickN u 3) (batE x)).length (u8s (batN (pickN u 3) (batE x))) ∧ Below w.heap.size w w' := by
  have hl := (batE_len x).2
  refine (encode_calls (pickN u 3) (batE x) A c m w hA (batE_small x) (by omega) hm).mono ?_
  intro e w' h
  unfold EncOk at h
  rw [if_pos (bat_check x u)] at h
  obtain ⟨v, rfl, h1, h2⟩ := h
  obtain ⟨A2, c2, rfl⟩ := own_sliceE h1
  exact ⟨A2, c2, rfl, h1, h2⟩
end Go.Proofs.YtpncahklapfoaaaDoor
