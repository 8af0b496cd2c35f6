/- script.check and checkAll at commands whose parts may be. -/
import Derived.Test.YtgmnoemkdigafaaDoorScrChk2
import Derived.Test.YtgmnoemkdigafaaDoorScrChk3
namespace Go.Proofs.YtgmnoemkdigafaaDoor
open Go.RowKit
set_option linter.unusedVariables false

theorem check_calls : ∀ (N : Nat) (c : Cmd), SizeOf.sizeOf c ≤ N → okC c → CkC c
  | 0, c, hN, _ => by cases c; simp at hN
  | N + 1, c, hN, hok => by
    obtain ⟨k, tx, t, th, el⟩ := c
    unfold okC at hok
    rcases hok with ⟨rfl, rfl, h1, h2, h3⟩ | ⟨h1, h2, h3, h4, rfl, rfl, rfl⟩
    · have hth : ∀ c ∈ th, CkC c := fun c hc => check_calls N c (by
        have h := List.sizeOf_lt_of_mem hc
        simp only [Cmd.mk.sizeOf_spec] at hN
        omega) (okCs_mem th c h2 hc)
      have hel : ∀ c ∈ el, CkC c := fun c hc => check_calls N c (by
        have h := List.sizeOf_lt_of_mem hc
        simp only [Cmd.mk.sizeOf_spec] at hN
        omega) (okCs_mem el c h3 hc)
      exact check_if t th el h1 (checkAll_of th hth) (checkAll_of el hel) hel
    · exact check_other k tx h1 h2 h3 h4
theorem checkAll_calls (cs : List Cmd) (h : okCs cs) : CkCs cs := checkAll_of cs fun c hc => check_calls _ c (Nat.le_refl _) (okCs_mem cs c h hc)
end Go.Proofs.YtgmnoemkdigafaaDoor
