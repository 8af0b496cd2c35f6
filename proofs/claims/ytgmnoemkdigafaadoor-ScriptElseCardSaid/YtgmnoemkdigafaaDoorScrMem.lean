/- How commands and tests lie in memory. -/
import Derived.Test.YtgmnoemkdigafaaDoorScrPlain
import Derived.Test.YtgmnoemkdigafaaDoorScrKit
namespace Go.Proofs.YtgmnoemkdigafaaDoor
open Go.RowKit
set_option linter.unusedVariables false

/-- Strings in memory. -/
def TxAt (w : World) (A : Option Addr) (l : List ByteArray) : Prop := l = [] ∨ ∃ g off, A = some ⟨g, off, none⟩ ∧ ∀ j s, l[j]? = some s → w.cell? ⟨g, off + j, none⟩ = some (.string s)
theorem TxAt.later {w w' : World} {A : Option Addr} {l : List ByteArray} (hb : Below w.heap.size w w') (h : TxAt w A l) : TxAt w' A l := by
  rcases h with h | ⟨g, off, e, hc⟩
  · exact .inl h
  · exact .inr ⟨g, off, e, fun j s hj => cell_later hb (hc j s hj)⟩
mutual
/-- A test's eight cells. -/
def TestV (w : World) : Tst → List Value → Prop
  | .mk k m p ns ks o lm ts, vs => ∃ An cn Ak ck At ct, vs = [.int .i64 k, .int .i64 m, .int .i64 p, .slice An ns.length cn, .slice Ak ks.length ck, .bool o, .int .i64 lm, .slice At ts.length ct] ∧ TxAt w An ns ∧ TxAt w Ak ks ∧ TestsAt w ts At ∧ (ns.length ≤ cn ∧ ks.length ≤ ck ∧ ts.length ≤ ct ∧ ns.length ≤ 1000000 ∧ ks.length ≤ 1000000 ∧ ts.length ≤ 1000000)
def TestsAt (w : World) : List Tst → Option Addr → Prop
  | [], _ => True
  | t :: l, A => ∃ b off vs, A = some ⟨b, off, none⟩ ∧ (∀ i v, vs[i]? = some v → w.cell? ⟨b, off + i, none⟩ = some v) ∧ TestV w t vs ∧ TestsAt w l (some ⟨b, off + 8, none⟩)
end
mutual
/-- A command's twelve cells. -/
def CmdV (w : World) : Cmd → List Value → Prop
  | .mk k tx t th el, vs => ∃ Ax cx tv Ah ch Ae ce, vs = [.int .i64 k, .slice Ax tx.length cx] ++ tv ++ [.slice Ah th.length ch, .slice Ae el.length ce] ∧ TxAt w Ax tx ∧ TestV w t tv ∧ CmdsAt w th Ah ∧ CmdsAt w el Ae ∧ (tx.length ≤ cx ∧ th.length ≤ ch ∧ el.length ≤ ce ∧ tx.length ≤ 1000000 ∧ th.length ≤ 1000000 ∧ el.length ≤ 1000000)
def CmdsAt (w : World) : List Cmd → Option Addr → Prop
  | [], _ => True
  | c :: l, A => ∃ b off vs, A = some ⟨b, off, none⟩ ∧ (∀ i v, vs[i]? = some v → w.cell? ⟨b, off + i, none⟩ = some v) ∧ CmdV w c vs ∧ CmdsAt w l (some ⟨b, off + 12, none⟩)
end
section
variable {w w' : World}
mutual
theorem testV_later (hb : Below w.heap.size w w') : ∀ (t : Tst) (vs : List Value), TestV w t vs → TestV w' t vs
  | .mk k m p ns ks o lm ts, vs, h => by
    unfold TestV at h ⊢
    obtain ⟨An, cn, Ak, ck, At, ct, rfl, h1, h2, h3, h4⟩ := h
    exact ⟨An, cn, Ak, ck, At, ct, rfl, h1.later hb, h2.later hb, testsAt_later hb ts At h3, h4⟩
theorem testsAt_later (hb : Below w.heap.size w w') : ∀ (l : List Tst) (A : Option Addr), TestsAt w l A → TestsAt w' l A
  | [], _, _ => by unfold TestsAt; trivial
  | t :: l, A, h => by
    unfold TestsAt at h ⊢
    obtain ⟨b, off, vs, rfl, h1, h2, h3⟩ := h
    exact ⟨b, off, vs, rfl, fun i v hi => cell_later hb (h1 i v hi), testV_later hb t vs h2, testsAt_later hb l _ h3⟩
end
mutual
theorem cmdV_later (hb : Below w.heap.size w w') : ∀ (c : Cmd) (vs : List Value), CmdV w c vs → CmdV w' c vs
  | .mk k tx t th el, vs, h => by
    unfold CmdV at h ⊢
    obtain ⟨Ax, cx, tv, Ah, ch, Ae, ce, rfl, h1, h2, h3, h4, h5⟩ := h
    exact ⟨Ax, cx, tv, Ah, ch, Ae, ce, rfl, h1.later hb, testV_later hb t tv h2, cmdsAt_later hb th Ah h3, cmdsAt_later hb el Ae h4, h5⟩
theorem cmdsAt_later (hb : Below w.heap.size w w') : ∀ (l : List Cmd) (A : Option Addr), CmdsAt w l A → CmdsAt w' l A
  | [], _, _ => by unfold CmdsAt; trivial
  | c :: l, A, h => by
    unfold CmdsAt at h ⊢
    obtain ⟨b, off, vs, rfl, h1, h2, h3⟩ := h
    exact ⟨b, off, vs, rfl, fun i v hi => cell_later hb (h1 i v hi), cmdV_later hb c vs h2, cmdsAt_later hb l _ h3⟩
end
theorem testV_len {t : Tst} {vs : List Value} (h : TestV w t vs) : vs.length = 8 := by
  cases t
  unfold TestV at h
  obtain ⟨An, cn, Ak, ck, At, ct, rfl, _⟩ := h
  rfl
theorem cmdV_len {c : Cmd} {vs : List Value} (h : CmdV w c vs) : vs.length = 12 := by
  cases c
  unfold CmdV at h
  obtain ⟨Ax, cx, tv, Ah, ch, Ae, ce, rfl, _, h2, _⟩ := h
  simp [testV_len h2]
theorem testsAt_get : ∀ (l : List Tst) (b off j : Nat) (t : Tst), TestsAt w l (some ⟨b, off, none⟩) → l[j]? = some t → ∃ vs, (∀ i v, vs[i]? = some v → w.cell? ⟨b, off + j * 8 + i, none⟩ = some v) ∧ TestV w t vs
  | [], b, off, j, t, h, hj => by simp at hj
  | s :: l, b, off, 0, t, h, hj => by
    unfold TestsAt at h
    obtain ⟨b', off', vs, e, h1, h2, h3⟩ := h
    cases e
    simp only [List.getElem?_cons_zero, Option.some.injEq] at hj
    subst hj
    exact ⟨vs, by simpa using h1, h2⟩
  | s :: l, b, off, j + 1, t, h, hj => by
    unfold TestsAt at h
    obtain ⟨b', off', vs, e, h1, h2, h3⟩ := h
    cases e
    obtain ⟨us, h4, h5⟩ := testsAt_get l b (off + 8) j t h3 (by simpa using hj)
    exact ⟨us, fun i v hi => by have := h4 i v hi; rwa [show off + (j + 1) * 8 + i = off + 8 + j * 8 + i by omega], h5⟩
theorem testsAt_ptr {l : List Tst} {A : Option Addr} (h : TestsAt w l A) (hl : l ≠ []) : ∃ b off, A = some ⟨b, off, none⟩ := by
  cases l with
  | nil => exact absurd rfl hl
  | cons t l =>
    unfold TestsAt at h
    obtain ⟨b, off, vs, rfl, _⟩ := h
    exact ⟨b, off, rfl⟩
theorem cmdsAt_get : ∀ (l : List Cmd) (b off j : Nat) (c : Cmd), CmdsAt w l (some ⟨b, off, none⟩) → l[j]? = some c → ∃ vs, (∀ i v, vs[i]? = some v → w.cell? ⟨b, off + j * 12 + i, none⟩ = some v) ∧ CmdV w c vs
  | [], b, off, j, c, h, hj => by simp at hj
  | s :: l, b, off, 0, c, h, hj => by
    unfold CmdsAt at h
    obtain ⟨b', off', vs, e, h1, h2, h3⟩ := h
    cases e
    simp only [List.getElem?_cons_zero, Option.some.injEq] at hj
    subst hj
    exact ⟨vs, by simpa using h1, h2⟩
  | s :: l, b, off, j + 1, c, h, hj => by
    unfold CmdsAt at h
    obtain ⟨b', off', vs, e, h1, h2, h3⟩ := h
    cases e
    obtain ⟨us, h4, h5⟩ := cmdsAt_get l b (off + 12) j c h3 (by simpa using hj)
    exact ⟨us, fun i v hi => by have := h4 i v hi; rwa [show off + (j + 1) * 12 + i = off + 12 + j * 12 + i by omega], h5⟩
theorem cmdsAt_ptr {l : List Cmd} {A : Option Addr} (h : CmdsAt w l A) (hl : l ≠ []) : ∃ b off, A = some ⟨b, off, none⟩ := by
  cases l with
  | nil => exact absurd rfl hl
  | cons t l =>
    unfold CmdsAt at h
    obtain ⟨b, off, vs, rfl, _⟩ := h
    exact ⟨b, off, rfl⟩
end
end Go.Proofs.YtgmnoemkdigafaaDoor
