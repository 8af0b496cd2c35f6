/- How states lie in memory: one that came in, and one of the call's own. -/
import Derived.Test.YtpncahklapfoaaaDoorStPlain
import Derived.Test.YtpncahklapfoaaaDoorWideP
import Derived.Laws.OwnMore
import Derived.Deep.AppendLies
namespace Go.Proofs.YtpncahklapfoaaaDoor
open Go.RowKit
set_option linter.unusedVariables false

theorem info_mail : (Tryd.prog.info? 85).map (fun i => (i.zero, i.size, i.bytes)) = some (some (.agg #[.int .i64 0, .int .i64 0, .string ⟨#[]⟩]), 3, 32) := by kernel_rfl
theorem info_box : (Tryd.prog.info? 83).map (fun i => (i.zero, i.size, i.bytes)) = some (some (.agg #[.string ⟨#[]⟩, .int .i64 0, .slice none 0 0]), 3, 48) := by kernel_rfl
theorem info_ent : (Tryd.prog.info? 63).map (fun i => (i.zero, i.size, i.bytes)) = some (some (.agg #[.int .i64 0, .string ⟨#[]⟩, .int .i64 0, .int .i64 0, .string ⟨#[]⟩, .string ⟨#[]⟩]), 6, 72) := by kernel_rfl
def mailCells (m : MailS) : List Value := [.int .i64 m.uid, .int .i64 m.flags, .string m.text]
def mailsCells (l : List MailS) : List Value := l.flatMap mailCells
def boxCells (p : BoxS × Value) : List Value := [.string p.1.name, .int .i64 p.1.next, p.2]
def boxesCells (l : List BoxS) (vm : List Value) : List Value := (l.zip vm).flatMap boxCells
theorem flat_len {α : Type} (f : α → List Value) (n : Nat) (hf : ∀ x, (f x).length = n) : ∀ l : List α, (l.flatMap f).length = l.length * n
  | [] => by simp
  | x :: r => by
    rw [List.flatMap_cons, List.length_append, hf, flat_len f n hf r, List.length_cons, Nat.add_mul]
    omega
theorem flat_get {α : Type} (f : α → List Value) (n : Nat) (hf : ∀ x, (f x).length = n) : ∀ (l : List α) (j : Nat) (x : α), l[j]? = some x → ∀ i, i < n → (l.flatMap f)[j * n + i]? = (f x)[i]?
  | [], j, x, h, i, hi => by simp at h
  | y :: r, 0, x, h, i, hi => by
    simp at h
    subst h
    rw [List.flatMap_cons, List.getElem?_append_left (by rw [hf]; omega), Nat.zero_mul, Nat.zero_add]
  | y :: r, j + 1, x, h, i, hi => by
    rw [List.flatMap_cons, List.getElem?_append_right (by rw [hf, Nat.add_mul]; omega), hf]
    have := flat_get f n hf r j x (by simpa using h) i hi
    rw [show (j + 1) * n + i - n = j * n + i by rw [Nat.add_mul]; omega]
    exact this
/-- One cell of a row of elements is written. -/
theorem flat_set {α : Type} (f : α → List Value) (n : Nat) (hf : ∀ x, (f x).length = n) (x y : α) (i : Nat) (u : Value) (hi : i < n) (hy : f y = (f x).set i u) : ∀ (l : List α) (j : Nat), l[j]? = some x → (l.flatMap f).set (j * n + i) u = (l.set j y).flatMap f
  | [], j, h => by simp at h
  | z :: r, 0, h => by
    simp at h
    subst h
    rw [List.flatMap_cons, List.set_append_left _ _ (by rw [hf]; omega), Nat.zero_mul, Nat.zero_add, List.set_cons_zero, List.flatMap_cons, hy]
  | z :: r, j + 1, h => by
    rw [List.flatMap_cons, List.set_append_right _ _ (by rw [hf, Nat.add_mul]; omega), hf, List.set_cons_succ, List.flatMap_cons]
    rw [show (j + 1) * n + i - n = j * n + i by rw [Nat.add_mul]; omega, flat_set f n hf x y i u hi hy r j (by simpa using h)]
theorem mailsCells_len (l : List MailS) : (mailsCells l).length = l.length * 3 := flat_len mailCells 3 (fun _ => rfl) l
theorem boxesCells_len (l : List BoxS) (vm : List Value) (h : vm.length = l.length) : (boxesCells l vm).length = l.length * 3 := by
  have := flat_len boxCells 3 (fun _ => rfl) (l.zip vm)
  unfold boxesCells
  rw [this, List.length_zip, h, Nat.min_self]

/-- Mails that lie one behind the other. -/
def MsAt (w : World) (A : Option Addr) (ms : List MailS) : Prop :=
  ∀ j (m : MailS), ms[j]? = some m → ∃ b off, A = some ⟨b, off, none⟩ ∧ w.cell? ⟨b, off + j * 3, none⟩ = some (.int .i64 m.uid) ∧ w.cell? ⟨b, off + j * 3 + 1, none⟩ = some (.int .i64 m.flags) ∧ w.cell? ⟨b, off + j * 3 + 2, none⟩ = some (.string m.text)
/-- Boxes that lie one behind the other. -/
def BxAt (w : World) (A : Option Addr) (l : List BoxS) : Prop :=
  ∀ j (b : BoxS), l[j]? = some b → ∃ g off Am cm, A = some ⟨g, off, none⟩ ∧ w.cell? ⟨g, off + j * 3, none⟩ = some (.string b.name) ∧ w.cell? ⟨g, off + j * 3 + 1, none⟩ = some (.int .i64 b.next) ∧ w.cell? ⟨g, off + j * 3 + 2, none⟩ = some (.slice Am b.mails.length cm) ∧ (b.mails.length ≤ cm ∧ (Am = none → cm = 0)) ∧ MsAt w Am b.mails
theorem MsAt.later {w w' : World} {A : Option Addr} {l : List MailS} (hb : Below w.heap.size w w') (h : MsAt w A l) : MsAt w' A l := fun j m hj =>
  have ⟨b, off, hA, c0, c1, c2⟩ := h j m hj
  ⟨b, off, hA, cell_later hb c0, cell_later hb c1, cell_later hb c2⟩
theorem BxAt.later {w w' : World} {A : Option Addr} {l : List BoxS} (hb : Below w.heap.size w w') (h : BxAt w A l) : BxAt w' A l := fun j b hj =>
  have ⟨g, off, Am, cm, hA, c0, c1, c2, hc, hm⟩ := h j b hj
  ⟨g, off, Am, cm, hA, cell_later hb c0, cell_later hb c1, cell_later hb c2, hc, hm.later hb⟩
/-- A state that lies in memory. -/
structure StAt (w : World) (A : Option Addr) (c : Nat) (A2 : Option Addr) (c2 : Nat) (s : StS) : Prop where
  bx : BxAt w A s.boxes
  nb : s.boxes.length ≤ c
  es : EsAt w A2 s.spool
  nn : A2 = none → c2 = 0
theorem StAt.later {w w' : World} {A A2 : Option Addr} {c c2 : Nat} {s : StS} (hb : Below w.heap.size w w') (h : StAt w A c A2 c2 s) : StAt w' A c A2 c2 s := ⟨h.bx.later hb, h.nb, h.es.later hb, h.nn⟩
def stVal (A : Option Addr) (c : Nat) (A2 : Option Addr) (c2 : Nat) (s : StS) : Value := .agg #[.slice A s.boxes.length c, .slice A2 s.spool.length c2]

/-- No two of these are one. -/
def Apart (l : List (Option Nat)) : Prop := ∀ (i j k : Nat), l[i]? = some (some k) → l[j]? = some (some k) → i = j
theorem Apart.set {l : List (Option Nat)} (h : Apart l) (i : Nat) (o : Option Nat) (ho : o = none ∨ l[i]? = some o ∨ ∀ k, o = some k → ∀ (j : Nat), l[j]? ≠ some (some k)) : Apart (l.set i o) := by
  intro a b k ha hb
  rw [List.getElem?_set] at ha hb
  by_cases h1 : i = a
  · by_cases h2 : i = b
    · omega
    · subst h1
      rw [if_neg h2] at hb
      by_cases h3 : i < l.length
      · simp [h3] at ha
        subst ha
        rcases ho with ho | ho | ho
        · cases ho
        · exact h i b k ho hb
        · exact absurd hb (ho k rfl b)
      · simp [h3] at ha
  · rw [if_neg h1] at ha
    by_cases h2 : i = b
    · subst h2
      by_cases h3 : i < l.length
      · simp [h3] at hb
        subst hb
        rcases ho with ho | ho | ho
        · cases ho
        · exact h a i k ha ho
        · exact absurd ha (ho k rfl a)
      · simp [h3] at hb
    · rw [if_neg h2] at hb
      exact h a b k ha hb
theorem Apart.snoc {l : List (Option Nat)} (h : Apart l) (o : Option Nat) (ho : ∀ k, o = some k → ∀ (j : Nat), l[j]? ≠ some (some k)) : Apart (l ++ [o]) := by
  intro a b k ha hb
  by_cases h1 : a < l.length
  · rw [List.getElem?_append_left h1] at ha
    by_cases h2 : b < l.length
    · rw [List.getElem?_append_left h2] at hb
      exact h a b k ha hb
    · rw [List.getElem?_append_right (by omega)] at hb
      obtain ⟨h3, h4⟩ := List.getElem?_eq_some_iff.1 hb
      simp at h3
      have : b = l.length := by omega
      subst this
      simp at hb
      exact absurd ha (ho k hb a)
  · rw [List.getElem?_append_right (by omega)] at ha
    obtain ⟨h3, h4⟩ := List.getElem?_eq_some_iff.1 ha
    simp at h3
    have h5 : a = l.length := by omega
    subst h5
    simp at ha
    by_cases h2 : b < l.length
    · rw [List.getElem?_append_left h2] at hb
      exact absurd hb (ho k ha b)
    · rw [List.getElem?_append_right (by omega)] at hb
      obtain ⟨h6, h7⟩ := List.getElem?_eq_some_iff.1 hb
      simp at h6
      omega
/-- A state of the call's own: p its block; vb, vs its slices; vm the slices of its boxes' mails. -/
structure OwnSt (w : World) (B p : Nat) (s : StS) (vb vs : Value) (vm : List Value) : Prop where
  hp : w.heap[p]? = some (.cells #[vb, vs] 56 (0, 0))
  pB : B ≤ p
  rb : w.ownsRow B 83 3 vb s.boxes.length (boxesCells s.boxes vm)
  rs : w.ownsRow B 63 6 vs s.spool.length (entsCells s.spool)
  ln : vm.length = s.boxes.length
  rm : ∀ (j : Nat) (b : BoxS) (v : Value), s.boxes[j]? = some b → vm[j]? = some v → w.ownsRow B 85 3 v b.mails.length (mailsCells b.mails)
  ap : Apart (some p :: vb.ownBlock :: vs.ownBlock :: vm.map Value.ownBlock)
section
variable {w w' : World} {B p : Nat} {s : StS} {vb vs : Value} {vm : List Value}
theorem OwnSt.c0 (h : OwnSt w B p s vb vs vm) : w.cell? ⟨p, 0, none⟩ = some vb := by simp [World.cell?, h.hp]
theorem OwnSt.c1 (h : OwnSt w B p s vb vs vm) : w.cell? ⟨p, 1, none⟩ = some vs := by simp [World.cell?, h.hp]
theorem OwnSt.f0 (h : OwnSt w B p s vb vs vm) : w.frozen? ⟨p, 0, none⟩ = false := by simp [World.frozen?, h.hp]
theorem OwnSt.f1 (h : OwnSt w B p s vb vs vm) : w.frozen? ⟨p, 1, none⟩ = false := by simp [World.frozen?, h.hp]
theorem OwnSt.lt (h : OwnSt w B p s vb vs vm) : p < w.heap.size := (Array.getElem?_eq_some_iff.1 h.hp).1
theorem OwnSt.blocks (h : OwnSt w B p s vb vs vm) : ∀ (j k : Nat), (some p :: vb.ownBlock :: vs.ownBlock :: vm.map Value.ownBlock)[j]? = some (some k) → B ≤ k ∧ k < w.heap.size := by
  intro j k hj
  match j with
  | 0 => simp at hj; subst hj; exact ⟨h.pB, h.lt⟩
  | 1 => simp at hj; exact h.rb.lt k hj
  | 2 => simp at hj; exact h.rs.lt k hj
  | j + 3 =>
    simp only [List.getElem?_cons_succ, List.getElem?_map, Option.map_eq_some_iff] at hj
    obtain ⟨v, hv, hk⟩ := hj
    have hjl : j < vm.length := (List.getElem?_eq_some_iff.1 hv).1
    have hb : s.boxes[j]? = some (s.boxes[j]'(by rw [← h.ln]; exact hjl)) := by simp
    exact (h.rm j _ v hb hv).lt k hk
/-- What is written elsewhere does not touch it. -/
theorem OwnSt.kept (h : OwnSt w B p s vb vs vm) {r : Option Nat} (hg : w.grownBy w' r) (hr : ∀ k, r = some k → ∀ (j : Nat), (some p :: vb.ownBlock :: vs.ownBlock :: vm.map Value.ownBlock)[j]? ≠ some (some k)) : OwnSt w' B p s vb vs vm := by
  have hne : ∀ (j : Nat) (o : Option Nat), (some p :: vb.ownBlock :: vs.ownBlock :: vm.map Value.ownBlock)[j]? = some o → o = none ∨ o ≠ r := by
    intro j o hj
    cases o with
    | none => exact .inl rfl
    | some k => exact .inr fun e => hr k e.symm j hj
  refine ⟨?_, h.pB, h.rb.kept hg (hne 1 _ rfl), h.rs.kept hg (hne 2 _ rfl), h.ln, fun j b v hb hv => (h.rm j b v hb hv).kept hg (hne (j + 3) _ (by simp [hv])), h.ap⟩
  rw [hg.block p h.lt ((hne 0 _ rfl).resolve_left (by simp))]
  exact h.hp
theorem OwnSt.later (h : OwnSt w B p s vb vs vm) (hb : Below w.heap.size w w') : OwnSt w' B p s vb vs vm :=
  h.kept (r := none) ⟨hb.os, hb.tape, hb.output, hb.size, fun k hk _ => hb.block k hk⟩ (fun k e => by cases e)
theorem ms_of_own {base n c : Nat} {A : Option Addr} {l : List MailS} (h : w.ownsRow base 85 3 (.slice A n c) n (mailsCells l)) (hl : l.length = n) : MsAt w A l := by
  intro j m hj
  have hjl : j < n := by rw [← hl]; exact (List.getElem?_eq_some_iff.1 hj).1
  obtain ⟨g, c2, he⟩ : ∃ g c2, (Value.slice A n c) = .slice (some ⟨g, 0, none⟩) n c2 := by
    rcases h.2 with ⟨h1, h2⟩ | ⟨g, cap, cur, h1, _⟩
    · omega
    · exact ⟨g, cap, h1⟩
  obtain ⟨rfl, _, rfl⟩ := Value.slice.inj he
  have hc : ∀ i, i < 3 → w.cell? ⟨g, 0 + j * 3 + i, none⟩ = (mailCells m)[i]? := fun i hi => by
    rw [Nat.zero_add]
    exact (h.cellAt (j * 3 + i) (by omega)).trans (flat_get mailCells 3 (fun _ => rfl) l j m hj i hi)
  exact ⟨g, 0, rfl, hc 0 (by decide), hc 1 (by decide), hc 2 (by decide)⟩
theorem own_cap {base e size n c : Nat} {A : Option Addr} {xs : List Value} (h : w.ownsRow base e size (.slice A n c) n xs) : n ≤ c := by
  rcases h.2 with ⟨h1, h2⟩ | ⟨g, cap, cur, h1, _, _, h2, _⟩
  · omega
  · obtain ⟨_, _, rfl⟩ := Value.slice.inj h1
    exact h2
theorem own_nil {base e size n c : Nat} {A : Option Addr} {xs : List Value} (h : w.ownsRow base e size (.slice A n c) n xs) : A = none → c = 0 := by
  intro hA
  rcases h.2 with ⟨h1, h2⟩ | ⟨g, cap, cur, h1, _⟩
  · obtain ⟨_, _, rfl⟩ := Value.slice.inj h1
    rfl
  · obtain ⟨h2, _, _⟩ := Value.slice.inj h1
    rw [hA] at h2
    cases h2
theorem zip_get {α β : Type} : ∀ (l : List α) (m : List β) (j : Nat) (x : α) (y : β), l[j]? = some x → m[j]? = some y → (l.zip m)[j]? = some (x, y)
  | [], _, j, x, y, h, _ => by simp at h
  | a :: l, [], j, x, y, _, h => by simp at h
  | a :: l, b :: m, 0, x, y, h, h2 => by simp at h h2; subst h h2; rfl
  | a :: l, b :: m, j + 1, x, y, h, h2 => by simpa using zip_get l m j x y (by simpa using h) (by simpa using h2)
theorem OwnSt.vmAt (h : OwnSt w B p s vb vs vm) (j : Nat) (b : BoxS) (hb : s.boxes[j]? = some b) : ∃ A c, vm[j]? = some (.slice A b.mails.length c) := by
  have hjl : j < vm.length := by rw [h.ln]; exact (List.getElem?_eq_some_iff.1 hb).1
  have hv : vm[j]? = some vm[j] := by simp
  obtain ⟨A, c, e⟩ := own_sliceE (h.rm j b _ hb hv)
  exact ⟨A, c, by rw [hv, e]⟩
/-- The cells of a box. -/
theorem OwnSt.boxAt (h : OwnSt w B p s vb vs vm) (j : Nat) (b : BoxS) (v : Value) (hb : s.boxes[j]? = some b) (hv : vm[j]? = some v) :
    ∃ g c, vb = .slice (some ⟨g, 0, none⟩) s.boxes.length c ∧ w.cell? ⟨g, 0 + j * 3, none⟩ = some (.string b.name) ∧ w.cell? ⟨g, 0 + j * 3 + 1, none⟩ = some (.int .i64 b.next) ∧ w.cell? ⟨g, 0 + j * 3 + 2, none⟩ = some v ∧ ∀ i, w.frozen? ⟨g, i, none⟩ = false := by
  have hjl : j < s.boxes.length := (List.getElem?_eq_some_iff.1 hb).1
  have hrb := h.rb
  obtain ⟨g, c, rfl, _, _⟩ := hrb.form (by omega)
  have hc : ∀ i, i < 3 → w.cell? ⟨g, 0 + j * 3 + i, none⟩ = (boxCells (b, v))[i]? := fun i hi => by
    rw [Nat.zero_add]
    exact (h.rb.cellAt (j * 3 + i) (by omega)).trans (flat_get boxCells 3 (fun _ => rfl) _ j (b, v) (zip_get _ _ j b v hb hv) i hi)
  exact ⟨g, c, rfl, hc 0 (by decide), hc 1 (by decide), hc 2 (by decide), fun i => h.rb.frozenAt i⟩
theorem OwnSt.bx (h : OwnSt w B p s vb vs vm) {A : Option Addr} {c : Nat} (e : vb = .slice A s.boxes.length c) : BxAt w A s.boxes := by
  intro j b hb
  obtain ⟨Am, cm, hv⟩ := h.vmAt j b hb
  obtain ⟨g, c2, e2, c0, c1, c2', _⟩ := h.boxAt j b _ hb hv
  rw [e] at e2
  obtain ⟨rfl, _, rfl⟩ := Value.slice.inj e2
  have hr := h.rm j b _ hb hv
  exact ⟨g, 0, Am, cm, rfl, c0, c1, c2', ⟨own_cap hr, own_nil hr⟩, ms_of_own hr rfl⟩
theorem OwnSt.slices (h : OwnSt w B p s vb vs vm) : ∃ A c A2 c2, vb = .slice A s.boxes.length c ∧ vs = .slice A2 s.spool.length c2 := by
  obtain ⟨A, c, e⟩ := own_sliceE h.rb
  obtain ⟨A2, c2, e2⟩ := own_sliceE h.rs
  exact ⟨A, c, A2, c2, e, e2⟩
theorem OwnSt.at (h : OwnSt w B p s vb vs vm) {A A2 : Option Addr} {c c2 : Nat} (e : vb = .slice A s.boxes.length c) (e2 : vs = .slice A2 s.spool.length c2) : StAt w A c A2 c2 s := by
  have h2 := h.rb
  have h3 := h.rs
  rw [e] at h2
  rw [e2] at h3
  exact ⟨h.bx e, own_cap h2, ownsRow_ents h3 rfl, own_nil h3⟩
end
end Go.Proofs.YtpncahklapfoaaaDoor
