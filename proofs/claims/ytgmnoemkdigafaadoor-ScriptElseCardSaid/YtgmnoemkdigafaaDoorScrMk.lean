/- Tests and commands of script, as they are made in memory. -/
import Derived.Test.YtgmnoemkdigafaaDoorScrCmdP
namespace Go.Proofs.YtgmnoemkdigafaaDoor
open Go.RowKit
set_option linter.unusedVariables false

theorem testV_leaf (w : World) (k : Int) : TestV w (.mk k 0 0 [] [] false 0 []) [.int .i64 k, .int .i64 0, .int .i64 0, .slice none 0 0, .slice none 0 0, .bool false, .int .i64 0, .slice none 0 0] := by
  unfold TestV
  exact ⟨none, 0, none, 0, none, 0, rfl, .inl rfl, .inl rfl, by unfold TestsAt; trivial, by simp⟩
theorem testV_not {w : World} {t : Tst} {tv : List Value} {q : Nat} (h : TestV w t tv) (hq : Bk w q tv 31) : TestV w (.mk 3 0 0 [] [] false 0 [t]) [.int .i64 3, .int .i64 0, .int .i64 0, .slice none 0 0, .slice none 0 0, .bool false, .int .i64 0, .slice (some ⟨q, 0, none⟩) 1 1] := by
  unfold TestV
  refine ⟨none, 0, none, 0, some ⟨q, 0, none⟩, 1, rfl, .inl rfl, .inl rfl, ?_, by simp⟩
  unfold TestsAt
  exact ⟨q, 0, tv, rfl, fun i v hi => by rw [Nat.zero_add]; exact hq.cell i v hi, h, by unfold TestsAt; trivial⟩
theorem cmdsAt_one {w : World} {c : Cmd} {vs : List Value} {q : Nat} (h : CmdV w c vs) (hq : Bk w q vs 34) : CmdsAt w [c] (some ⟨q, 0, none⟩) := by
  unfold CmdsAt
  exact ⟨q, 0, vs, rfl, fun i v hi => by rw [Nat.zero_add]; exact hq.cell i v hi, h, by unfold CmdsAt; trivial⟩
theorem cmdV_mk {w : World} {t : Tst} {th el : List Cmd} {k m p lm : Int} {o : Bool} {An Ak At : Option Addr} {nn cn nk ck nt ct : Nat} {Ah Ae : Option Addr} {nh ch ne ce : Nat} (h : TestV w t [.int .i64 k, .int .i64 m, .int .i64 p, .slice An nn cn, .slice Ak nk ck, .bool o, .int .i64 lm, .slice At nt ct])
    (h1 : CmdsAt w th Ah) (h2 : CmdsAt w el Ae) (e1 : nh = th.length) (e2 : ne = el.length) (l1 : nh ≤ ch ∧ nh ≤ 1000000) (l2 : ne ≤ ce ∧ ne ≤ 1000000) :
    CmdV w (.mk 2 [] t th el) [.int .i64 2, .slice none 0 0, .int .i64 k, .int .i64 m, .int .i64 p, .slice An nn cn, .slice Ak nk ck, .bool o, .int .i64 lm, .slice At nt ct, .slice Ah nh ch, .slice Ae ne ce] := by
  subst e1 e2
  unfold CmdV
  exact ⟨none, 0, _, Ah, ch, Ae, ce, rfl, .inl rfl, h, h1, h2, by simp; omega⟩
theorem okCs_one {c : Cmd} (h : okC c) : okCs [c] := by unfold okCs; exact ⟨h, by unfold okCs; trivial⟩
theorem okCs_nil : okCs [] := by unfold okCs; trivial
theorem okC_if {t : Tst} {th el : List Cmd} (h : okT t) (h1 : okCs th) (h2 : okCs el) : okC (.mk 2 [] t th el) := by unfold okC; exact .inl ⟨rfl, rfl, h, h1, h2⟩
end Go.Proofs.YtgmnoemkdigafaaDoor
