/- The helper Test of the statements, where it is deep: a test that asks for no other ones. -/
import Derived.Test.YtgmnoemkdigafaaDoorTst1
import Derived.Test.YtgmnoemkdigafaaDoorTst2
import Derived.Test.YtgmnoemkdigafaaDoorTsth3
import Derived.Test.YtgmnoemkdigafaaDoorTsth4
import Derived.Test.YtgmnoemkdigafaaDoorTsth5
import Derived.Test.YtgmnoemkdigafaaDoorTst6
import Derived.Test.YtgmnoemkdigafaaDoorTst7
import Derived.Test.YtgmnoemkdigafaaDoorTst8
import Derived.Test.YtgmnoemkdigafaaDoorTst9hi
import Derived.Test.YtgmnoemkdigafaaDoorTst10
namespace Go.Proofs.YtgmnoemkdigafaaDoor
open Go.RowKit
set_option linter.unusedVariables false

theorem testV_cells {w : World} {t : Tst} {vs : List Value} (h : TestV w t vs) : ∃ (k m p lm : Int) (o : Bool) (An Ak At : Option Addr) (nn cn nk ck nt ct : Nat),
    vs = [.int .i64 k, .int .i64 m, .int .i64 p, .slice An nn cn, .slice Ak nk ck, .bool o, .int .i64 lm, .slice At nt ct] := by
  obtain ⟨k, m, p, ns, ks, o, lm, ts⟩ := t
  unfold TestV at h
  obtain ⟨An, cn, Ak, ck, At, ct, rfl, _⟩ := h
  exact ⟨k, m, p, lm, o, An, Ak, At, _, cn, _, ck, _, ct, rfl⟩
/-- What Test gives back: a test's cells, that lie in new memory. -/
def TestA (t : Tst) (w : World) (e : Ending) (w' : World) : Prop :=
  ∃ (k m p lm : Int) (o : Bool) (An Ak At : Option Addr) (nn cn nk ck nt ct : Nat),
    e = .returned (.agg #[.int .i64 k, .int .i64 m, .int .i64 p, .slice An nn cn, .slice Ak nk ck, .bool o, .int .i64 lm, .slice At nt ct]) ∧
    Hid (∀ W, New w.heap.size w' W → TestV W t [.int .i64 k, .int .i64 m, .int .i64 p, .slice An nn cn, .slice Ak nk ck, .bool o, .int .i64 lm, .slice At nt ct]) ∧ Below w.heap.size w w'
theorem testA_of {t t' : Tst} {w : World} {args : Array Value} (h : Calls Tryd.prog 16 args w fun e w' => ∃ tv, e = .returned (.agg (List.toArray tv)) ∧ (∀ W, New w.heap.size w' W → TestV W t tv) ∧ Below w.heap.size w w') (ht : t' = t) :
    Calls Tryd.prog 16 args w (TestA t' w) := by
  subst ht
  refine h.mono ?_
  rintro e w' ⟨tv, rfl, h1, h2⟩
  obtain ⟨k, m, p, lm, o, An, Ak, At, nn, cn, nk, ck, nt, ct, rfl⟩ := testV_cells (h1 w' (New.refl _ _))
  exact ⟨k, m, p, lm, o, An, Ak, At, nn, cn, nk, ck, nt, ct, rfl, Lib.hid h1, h2⟩
theorem test0_calls (x : Stk) (d : Int) (vs : List Value) (w : World) (h3 : 3 ≤ d) (hd : d ≤ 1000) (hv : StkV w x vs) :
    Calls Tryd.prog 16 #[.agg vs.toArray, .int .i64 d] w (TestA (testN 0 x) w) := by
  obtain ⟨kk, a, b, s, t, inn⟩ := x
  unfold StkV at hv
  obtain ⟨A, c, rfl, hA, hB⟩ := hv
  have hp := pickN_lt kk 10 (by decide)
  have hk : ∀ (v K : Nat), pickN kk 10 = v → (if 3 ≤ 1 + (v : Int) ∧ 1 + (v : Int) ≤ 5 then (1 : Int) else 1 + v) = K → testN 0 (.mk kk a b s t inn) = leafT K (.mk kk a b s t inn) := fun v K h1 h2 => by
    subst h1
    rw [← h2]
    rfl
  have hd0 : 0 ≤ d := by omega
  rcases (show pickN kk 10 = 0 ∨ pickN kk 10 = 1 ∨ pickN kk 10 = 2 ∨ pickN kk 10 = 3 ∨ pickN kk 10 = 4 ∨ pickN kk 10 = 5 ∨ pickN kk 10 = 6 ∨ pickN kk 10 = 7 ∨ pickN kk 10 = 8 ∨ pickN kk 10 = 9 by omega) with h | h | h | h | h | h | h | h | h | h
  · exact testA_of (tst_1 kk a b s t inn A c d w hd0 hd h hB hA) (hk 0 1 h (by decide))
  · exact testA_of (tst_2 kk a b s t inn A c d w hd0 hd h hB hA) (hk 1 2 h (by decide))
  · exact testA_of (tst_h3 kk a b s t inn A c d w hd0 hd h3 h hB hA) (hk 2 1 h (by decide))
  · exact testA_of (tst_h4 kk a b s t inn A c d w hd0 hd h3 h hB hA) (hk 3 1 h (by decide))
  · exact testA_of (tst_h5 kk a b s t inn A c d w hd0 hd h3 h hB hA) (hk 4 1 h (by decide))
  · exact testA_of (tst_6 kk a b s t inn A c d w hd0 hd h hB hA) (hk 5 6 h (by decide))
  · exact testA_of (tst_7 kk a b s t inn A c d w hd0 hd h hB hA) (hk 6 7 h (by decide))
  · exact testA_of (tst_8 kk a b s t inn A c d w hd0 hd h hB hA) (hk 7 8 h (by decide))
  · exact testA_of (tst_9hi kk a b s t inn A c d w hd0 hd h3 h hB hA) (hk 8 9 h (by decide))
  · exact testA_of (tst_10 kk a b s t inn A c d w hd0 hd h hB hA) (hk 9 10 h (by decide))
end Go.Proofs.YtgmnoemkdigafaaDoor
