/- Kinds: what a value's cells say, and that an argument that reads as data has its kind. -/
import Derived.Test.YtgmnoemkdigafaaDoorKit
import Derived.ChangeArms
import Derived.WideShapes
import Derived.ProofKit
import Derived.Lib.LaidTab
import Derived.RangeFuncOwn
namespace Go.Proofs.YtgmnoemkdigafaaDoor
open Go.RowKit

/-- A kind of values: what its cells say in a world. -/
structure Rk (α : Type) where
  sz : Nat
  K : World → α → List Value → Prop
  len : ∀ {w x cs}, K w x cs → cs.length = sz
  later : ∀ {w w' : World} {x cs}, Below w.heap.size w w' → K w x cs → K w' x cs

namespace Rk
/-- Values that lie in memory, one behind the other. -/
def At {α : Type} (d : Rk α) (w : World) (b off : Nat) (xs : List α) : Prop :=
  ∀ j, (h : j < xs.length) → ∃ cs, d.K w xs[j] cs ∧ ∀ i u, cs[i]? = some u → w.cell? ⟨b, off + (j * d.sz + i), none⟩ = some u
/-- A row of values at an address (none: there are none). -/
def Row {α : Type} (d : Rk α) (w : World) (A : Option Addr) (xs : List α) : Prop := xs = [] ∨ ∃ b off, A = some ⟨b, off, none⟩ ∧ d.At w b off xs
theorem At.later {α : Type} {d : Rk α} {w w' : World} {b off : Nat} {xs : List α} (hb : Below w.heap.size w w') (h : d.At w b off xs) : d.At w' b off xs := by
  intro j hj
  obtain ⟨cs, hk, hc⟩ := h j hj
  refine ⟨cs, d.later hb hk, fun i u hu => ?_⟩
  have h1 := hc i u hu
  obtain ⟨o, ho, _⟩ := cells_of_cell h1
  exact (hb.cell (p := ⟨b, off + (j * d.sz + i), none⟩) (Array.getElem?_eq_some_iff.1 ho).1).trans h1
theorem Row.later {α : Type} {d : Rk α} {w w' : World} {A : Option Addr} {xs : List α} (hb : Below w.heap.size w w') (h : d.Row w A xs) : d.Row w' A xs := by
  rcases h with h | ⟨b, off, e, h⟩
  · exact .inl h
  · exact .inr ⟨b, off, e, h.later hb⟩
/-- An element's cells. -/
theorem Row.get {α : Type} {d : Rk α} {w : World} {A : Option Addr} {xs : List α} (h : d.Row w A xs) (j : Nat) (hj : j < xs.length) :
    ∃ b off, A = some ⟨b, off, none⟩ ∧ ∃ cs, d.K w xs[j] cs ∧ ∀ i u, cs[i]? = some u → w.cell? ⟨b, off + (j * d.sz + i), none⟩ = some u := by
  rcases h with rfl | ⟨b, off, e, h⟩
  · simp at hj
  · exact ⟨b, off, e, h j hj⟩

def int (k : IntKind) : Rk Int where
  sz := 1
  K := fun _ x cs => cs = [.int k x] ∧ (Lit.int k x).wf = true
  len := fun h => by rw [h.1]; rfl
  later := fun _ h => h
def bool : Rk Bool where
  sz := 1
  K := fun _ x cs => cs = [.bool x]
  len := fun h => by rw [h]; rfl
  later := fun _ h => h
def str : Rk ByteArray where
  sz := 1
  K := fun _ x cs => cs = [.string x] ∧ x.size ≤ maxLen
  len := fun h => by rw [h.1]; rfl
  later := fun _ h => h
def unit : Rk Unit where
  sz := 0
  K := fun _ _ cs => cs = []
  len := fun h => by rw [h]; rfl
  later := fun _ h => h
def pair {α β : Type} (a : Rk α) (b : Rk β) : Rk (α × β) where
  sz := a.sz + b.sz
  K := fun w x cs => ∃ c1 c2, cs = c1 ++ c2 ∧ a.K w x.1 c1 ∧ b.K w x.2 c2
  len := by
    rintro w x cs ⟨c1, c2, rfl, h1, h2⟩
    rw [List.length_append, a.len h1, b.len h2]
  later := by
    rintro w w' x cs hb ⟨c1, c2, e, h1, h2⟩
    exact ⟨c1, c2, e, a.later hb h1, b.later hb h2⟩
def iso {α β : Type} (d : Rk α) (f : β → α) : Rk β where
  sz := d.sz
  K := fun w x cs => d.K w (f x) cs
  len := fun h => d.len h
  later := fun hb h => d.later hb h
def slice {α : Type} (d : Rk α) : Rk (List α) where
  sz := 1
  K := fun w xs cs => ∃ A c, cs = [.slice A xs.length c] ∧ xs.length ≤ c ∧ c ≤ maxLen ∧ (A = none → c = 0) ∧ d.Row w A xs
  len := by
    rintro w x cs ⟨A, c, rfl, _⟩
    rfl
  later := by
    rintro w w' x cs hb ⟨A, c, e, h1, h2, h3, h4⟩
    exact ⟨A, c, e, h1, h2, h3, h4.later hb⟩
end Rk

/-- What reads as data of type t has kind d. -/
def Opens (P : Program) (t : TypeId) {α : Type} (d : Rk α) : Prop :=
  ∀ {H : Type} (enc : TypeId × Value → H) (w : World) (base : Nat) (spare : Nat → Bool) (held : Bool) (fuel : Nat) (cs : List Value) (x : DataW H × List MemPlace), DataW.trod enc P w base spare held fuel t cs = some x → ∃ a, d.K w a cs

section
variable {P : Program} {t : TypeId}
theorem opens_int {k : IntKind} (ht : P.underlying t = some (.int k)) : Opens P t (Rk.int k) := by
  intro H enc w base spare held fuel cs x h
  obtain ⟨n, e, _, hw⟩ := DataW.trod_int ht h
  exact ⟨n, e, hw⟩
theorem opens_bool (ht : P.underlying t = some .bool) : Opens P t Rk.bool := by
  intro H enc w base spare held fuel cs x h
  obtain ⟨n, e, _⟩ := DataW.trod_bool ht h
  exact ⟨n, e⟩
theorem opens_str (ht : P.underlying t = some .string) : Opens P t Rk.str := by
  intro H enc w base spare held fuel cs x h
  obtain ⟨n, e, _, hs⟩ := DataW.trod_string ht h
  exact ⟨n, e, hs⟩
theorem opens_iso {α β : Type} {d : Rk α} {f : β → α} (h : Opens P t d) (g : α → β) (hg : ∀ a, f (g a) = a) : Opens P t (d.iso f) := by
  intro H enc w base spare held fuel cs x hx
  obtain ⟨a, ha⟩ := h enc w base spare held fuel cs x hx
  refine ⟨g a, ?_⟩
  show d.K w (f (g a)) cs
  rw [hg]; exact ha

theorem cell_plain {w : World} {a : Addr} {v : Value} (h : w.cell? a = some v) : a.spot = none := by
  unfold World.cell? at h
  split at h
  · rename_i c e f hb
    cases hs : a.spot with
    | none => rfl
    | some y => simp [hs] at h
  · simp at h

theorem mapM_get {α β : Type} {f : α → Option β} {l : List α} {r : List β} (h : l.mapM f = some r) (i : Nat) (hi : i < l.length) : ∃ b, r[i]? = some b ∧ f l[i] = some b := by
  obtain ⟨b, h1, h2⟩ := Lib.mapM_at h i l[i] (by simp [hi])
  exact ⟨b, h1, h2⟩

/-- Cells that are read together. -/
theorem cells_get {w : World} {base : Nat} {a : Addr} {n : Nat} {cs : List Value} (h : w.cells? base a n = some cs) : cs.length = n ∧ ∀ i u, cs[i]? = some u → w.cell? (a.add i) = some u := by
  unfold World.cells? at h
  split at h
  · have hl := Lib.mapM_length h
    rw [List.length_range] at hl
    refine ⟨hl, fun i u hu => ?_⟩
    have hi : i < n := by
      rw [← hl]; exact (List.getElem?_eq_some_iff.1 hu).1
    obtain ⟨b, h1, h2⟩ := mapM_get h i (by simpa using hi)
    rw [hu] at h1
    cases h1
    simpa using h2
  · cases h

theorem add_plain {a : Addr} (h : a.spot = none) (i : Nat) : a.add i = ⟨a.block, a.off + i, none⟩ := by
  cases a
  simp at h
  subst h
  unfold Addr.add; split <;> simp_all

theorem opens_slice {α : Type} {d : Rk α} {e : TypeId} (ht : P.underlying t = some (.slice e)) (hsz : P.cellsOf e = d.sz) (hpos : 0 < d.sz) (h : Opens P e d) : Opens P t d.slice := by
  intro H enc w base spare held fuel cs x hx
  rcases DataW.trod_slice ht hx with ⟨rfl, _⟩ | ⟨a, len, cap, elems, rest, n, _, rfl, _, _, hlc, hcm, hel, hget, _⟩
  · exact ⟨[], none, 0, rfl, Nat.le_refl _, Nat.zero_le _, fun _ => rfl, .inl rfl⟩
  · have one : ∀ i, i < len → ∃ v cs, d.K w v cs ∧ (a.add (i * d.sz)).spot = none ∧ ∀ k u, cs[k]? = some u → w.cell? ((a.add (i * d.sz)).add k) = some u := by
      intro i hi
      have h1 := hget i hi
      rw [List.getElem?_eq_getElem (by omega), hsz] at h1
      obtain ⟨cs, hcs, htr⟩ := Option.bind_eq_some_iff.1 h1
      obtain ⟨v, hv⟩ := h enc w base spare held n cs _ htr
      obtain ⟨hl, hc⟩ := cells_get hcs
      refine ⟨v, cs, hv, ?_, hc⟩
      have h0 : ∃ u, cs[0]? = some u := ⟨cs[0]'(by omega), by simp⟩
      obtain ⟨u, hu⟩ := h0
      have h2 := cell_plain (hc 0 u hu)
      revert h2
      unfold Addr.add
      split <;> simp_all
    have all : ∀ m, m ≤ len → ∃ xs : List α, xs.length = m ∧ ∀ j, (hj : j < xs.length) → ∃ cs, d.K w xs[j] cs ∧ (a.add (j * d.sz)).spot = none ∧ ∀ k u, cs[k]? = some u → w.cell? ((a.add (j * d.sz)).add k) = some u := by
      intro m
      induction m with
      | zero => exact fun _ => ⟨[], rfl, fun j hj => by simp at hj⟩
      | succ m ih =>
        intro hm
        obtain ⟨xs, hl, hx⟩ := ih (by omega)
        obtain ⟨v, cs, h1, h2⟩ := one m (by omega)
        refine ⟨xs ++ [v], by simp [hl], fun j hj => ?_⟩
        by_cases hjm : j < xs.length
        · rw [List.getElem_append_left hjm]
          exact hx j hjm
        · obtain rfl : j = xs.length := by simp at hj; omega
          rw [List.getElem_append_right (Nat.le_refl _)]
          simp only [Nat.sub_self, List.getElem_singleton]
          rw [hl]
          exact ⟨cs, h1, h2⟩
    obtain ⟨xs, hl, hx⟩ := all len (Nat.le_refl _)
    refine ⟨xs, some a, cap, by rw [hl], by omega, hcm, (fun e => by cases e), ?_⟩
    by_cases h0 : xs = []
    · exact .inl h0
    · have hpl : a.spot = none := by
        have hpos2 : 0 < xs.length := List.length_pos_iff.2 h0
        obtain ⟨cs, h1, h2, h3⟩ := hx 0 hpos2
        revert h2
        unfold Addr.add
        split <;> simp_all
      refine .inr ⟨a.block, a.off, by cases a; simp at hpl; subst hpl; rfl, fun j hj => ?_⟩
      obtain ⟨cs, h1, h2, h3⟩ := hx j hj
      refine ⟨cs, h1, fun i u hu => ?_⟩
      have h4 := h3 i u hu
      rw [add_plain hpl, add_plain rfl] at h4
      rw [← Nat.add_assoc]
      exact h4

/-- The fields of a struct, from one on. -/
def OpensF (P : Program) (fs : List Field) (off : Nat) {α : Type} (d : Rk α) : Prop :=
  ∀ {H : Type} (enc : TypeId × Value → H) (w : World) (base : Nat) (spare : Nat → Bool) (held : Bool) (fuel : Nat) (cs : List Value) (xs : List (DataW H × List MemPlace)), cs.length = off + d.sz → xs.length = fs.length →
    (∀ (i : Nat) (f : Field), fs[i]? = some f → DataW.trod enc P w base spare held fuel f.type ((cs.drop f.offset).take (P.cellsOf f.type)) = xs[i]?) → ∃ a, d.K w a (cs.drop off)
theorem opensF_nil (off : Nat) : OpensF P [] off Rk.unit := by
  intro H enc w base spare held fuel cs xs hl _ _
  exact ⟨(), List.drop_of_length_le (by rw [hl]; exact Nat.le_refl _)⟩
theorem opensF_cons {α β : Type} {a : Rk α} {b : Rk β} {f : Field} {fs : List Field} {off : Nat} (ho : f.offset = off) (hs : P.cellsOf f.type = a.sz) (h1 : Opens P f.type a) (h2 : OpensF P fs (off + a.sz) b) : OpensF P (f :: fs) off (a.pair b) := by
  intro H enc w base spare held fuel cs xs hl hx hget
  match xs, hx with
  | x :: xs, hx =>
    have g0 := hget 0 f rfl
    rw [ho, hs] at g0
    obtain ⟨u, hu⟩ := h1 enc w base spare held fuel _ x g0
    obtain ⟨v, hv⟩ := h2 enc w base spare held fuel cs xs (by rw [hl]; show off + (a.sz + b.sz) = _; omega) (by simpa using hx) (fun i g hg => by
      have := hget (i + 1) g (by simpa using hg)
      simpa using this)
    refine ⟨(u, v), (cs.drop off).take a.sz, cs.drop (off + a.sz), ?_, hu, hv⟩
    rw [← List.drop_drop, List.take_append_drop]
theorem opens_struct {α : Type} {d : Rk α} {fs : Array Field} (ht : P.underlying t = some (.struct fs)) (hc : P.cellsOf t = d.sz) (h : OpensF P fs.toList 0 d) : Opens P t d := by
  intro H enc w base spare held fuel cs x hx
  obtain ⟨xs, n, _, _, hl, hxs, hget⟩ := DataW.trod_struct ht hx
  have := h enc w base spare held n cs xs (by rw [hl, hc, Nat.zero_add]) (by simpa using hxs) (fun i f hf => hget i f (by simpa using hf))
  simpa using this
end
end Go.Proofs.YtgmnoemkdigafaaDoor
