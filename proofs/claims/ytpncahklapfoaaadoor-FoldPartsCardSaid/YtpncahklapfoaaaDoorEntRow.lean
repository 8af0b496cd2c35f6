/- Rows of entries. -/
import Derived.Test.YtpncahklapfoaaaDoorForm
import Derived.Deep.QuietTactic
import Derived.BigQuiet
namespace Go.Proofs.YtpncahklapfoaaaDoor
open Go.RowKit
set_option linter.unusedVariables false

/-- Entries that lie one behind the other. -/
def EsAt (w : World) (A : Option Addr) (es : List Ent) : Prop :=
  ∀ j, (h : j < es.length) → ∃ b off, A = some ⟨b, off, none⟩ ∧ w.cell? ⟨b, off + j * 6, none⟩ = some (.int .i64 es[j].kind) ∧ w.cell? ⟨b, off + j * 6 + 1, none⟩ = some (.string es[j].box) ∧ w.cell? ⟨b, off + j * 6 + 2, none⟩ = some (.int .i64 es[j].uid)
    ∧ w.cell? ⟨b, off + j * 6 + 3, none⟩ = some (.int .i64 es[j].flags) ∧ w.cell? ⟨b, off + j * 6 + 4, none⟩ = some (.string es[j].dst) ∧ w.cell? ⟨b, off + j * 6 + 5, none⟩ = some (.string es[j].text)
theorem EsAt.later {w w' : World} {A : Option Addr} {es : List Ent} (hb : Below w.heap.size w w') (h : EsAt w A es) : EsAt w' A es := fun j hj =>
  have ⟨b, off, hA, c0, c1, c2, c3, c4, c5⟩ := h j hj
  ⟨b, off, hA, cell_later hb c0, cell_later hb c1, cell_later hb c2, cell_later hb c3, cell_later hb c4, cell_later hb c5⟩
def entsCells (es : List Ent) : List Value := es.flatMap entCells
theorem entsCells_append (a b : List Ent) : entsCells (a ++ b) = entsCells a ++ entsCells b := by simp [entsCells]
theorem entsCells_len (es : List Ent) : (entsCells es).length = es.length * 6 := by
  induction es with
  | nil => rfl
  | cons e r ih =>
    show (entCells e ++ entsCells r).length = _
    rw [List.length_append, ih, List.length_cons]
    show 6 + _ = _
    omega
theorem entsCells_get (es : List Ent) : ∀ j (h : j < es.length) i, i < 6 → (entsCells es)[j * 6 + i]? = (entCells es[j])[i]? := by
  induction es with
  | nil => intro j h; simp at h
  | cons e r ih =>
    intro j h i hi
    show (entCells e ++ entsCells r)[j * 6 + i]? = _
    cases j with
    | zero => rw [List.getElem?_append_left (by show 0 * 6 + i < 6; omega), Nat.zero_mul, Nat.zero_add]; rfl
    | succ j =>
      rw [List.getElem?_append_right (by show 6 ≤ _; omega)]
      have := ih j (by simpa using h) i hi
      rw [show (j + 1) * 6 + i - (entCells e).length = j * 6 + i by show (j + 1) * 6 + i - 6 = _; omega, this]
      rfl
theorem own_sliceE {w : World} {base e size n : Nat} {v : Value} {xs : List Value} (h : w.ownsRow base e size v n xs) : ∃ A c, v = .slice A n c := by
  rcases h.2 with ⟨rfl, rfl⟩ | ⟨g, cap, cur, rfl, _⟩
  · exact ⟨_, _, rfl⟩
  · exact ⟨_, _, rfl⟩
theorem ownsRow_ents {w : World} {base n c : Nat} {A : Option Addr} {es : List Ent} (h : w.ownsRow base 63 6 (.slice A n c) n (entsCells es)) (hl : es.length = n) : EsAt w A es := by
  intro j hj
  obtain ⟨g, c2, he⟩ : ∃ g c2, (Value.slice A n c) = .slice (some ⟨g, 0, none⟩) n c2 := by
    rcases h.2 with ⟨h1, h2⟩ | ⟨g, cap, cur, h1, _⟩
    · omega
    · exact ⟨g, cap, h1⟩
  obtain ⟨rfl, _, rfl⟩ := Value.slice.inj he
  have hc : ∀ i, i < 6 → w.cell? ⟨g, 0 + j * 6 + i, none⟩ = (entCells es[j])[i]? := fun i hi => by
    rw [Nat.zero_add]
    exact (h.cellAt (j * 6 + i) (by omega)).trans (entsCells_get es j hj i hi)
  exact ⟨g, 0, rfl, hc 0 (by decide), hc 1 (by decide), hc 2 (by decide), hc 3 (by decide), hc 4 (by decide), hc 5 (by decide)⟩

/-- The first error of entries. -/
def formsR : List Ent → Int
  | [] => 0
  | e :: r => if formR e ≠ 0 then formR e else formsR r
theorem formsR_cons (e : Ent) (r : List Ent) : formsR (e :: r) = if formR e ≠ 0 then formR e else formsR r := rfl
/-- What book.Check answers. -/
def checkB (user : Int) (es : List Ent) : Int :=
  if user < 0 ∨ 3 ≤ user then 6 else if es.length < 1 ∨ 10 < es.length then 1 else formsR es
/-- An entry of bounded texts. -/
structure SmE (e : Ent) : Prop where
  box : e.box.size ≤ 100000
  dst : e.dst.size ≤ 100000
  text : e.text.size ≤ 100000

end Go.Proofs.YtpncahklapfoaaaDoor
