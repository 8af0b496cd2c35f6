/- script.checkTest at a test whose parts may be: how deep it is. -/
import Derived.Test.YtgmnoemkdigafaaDoorScrTestA
import Derived.Test.YtgmnoemkdigafaaDoorScrTestB
import Derived.Test.YtgmnoemkdigafaaDoorScrTestC
namespace Go.Proofs.YtgmnoemkdigafaaDoor
open Go.RowKit
set_option linter.unusedVariables false

theorem checkTest_calls : ∀ (N : Nat) (t : Tst), SizeOf.sizeOf t ≤ N → okT t → ∀ (d : Int) (vs : List Value) (w : World), 0 ≤ d → d ≤ 7 → TestV w t vs →
    Calls Tryd.prog 63 #[.agg vs.toArray, .int .i64 d] w fun e w' => e = .returned (.int .i64 (chkT t d)) ∧ Below w.heap.size w w'
  | 0, t, hN, _, _, _, _, _, _, _ => by cases t; simp at hN
  | N + 1, t, hN, hok, d, vs, w, hd0, hd7, hv => by
    have ih := checkTest_calls N
    obtain ⟨k, m, p, ns, ks, o, lm, ts⟩ := t
    have hok2 := hok
    unfold okT at hok2
    obtain ⟨hk1, hk10, hf, hts⟩ := hok2
    rcases (show (k = 1 ∨ k = 2) ∨ (k = 3 ∨ k = 4 ∨ k = 5) ∨ (k = 6 ∨ k = 7 ∨ k = 8 ∨ k = 9 ∨ k = 10) by omega) with h | h | h
    · exact checkTest_A k m p ns ks o lm ts h hok d vs w hd0 hd7 hv
    · refine checkTest_C k m p ns ks o lm ts h hok (fun t ht => ih t ?_ (okTs_mem ts t hts ht)) d vs w hd0 hd7 hv
      have h1 := List.sizeOf_lt_of_mem ht
      simp only [Tst.mk.sizeOf_spec] at hN
      omega
    · exact checkTest_B k m p ns ks o lm ts h hok d vs w hd0 hd7 hv
end Go.Proofs.YtgmnoemkdigafaaDoor
