/- Plain words on entries and batches: their form, and their bytes. The function rule.Name: what it returns for every text. Kinds: what a value's cells say, and that an argument that reads as data has its kind. What a listed package-level variable's cells hold: an array of strings. The function Flags of package rule: what it returns for every list. who.List at a text of any length: is it a list of one? The judge of a script: commands. script.checkTest at a test whose parts may be: k = 1 ∨ k = 2. -/
import Derived.Test.YtgmnoemkdigafaaDoorZB1
import Derived.Test.YtgmnoemkdigafaaDoorZB5
import Derived.WalkKit
import Derived.ChangeArms
import Derived.WideShapes
import Derived.ProofKit
import Derived.Lib.LaidTab
import Derived.RangeFuncOwn
import Derived.OpenShut
import Derived.FnData
import Derived.Test.YtgmnoemkdigafaaDoorZB2
import Derived.Shelf.Slices.Turned
import Derived.Deep.DeepCutAuto
import Derived.Deep.CutBlock
namespace Go.Proofs.YtgmnoemkdigafaaDoor
open Go.RowKit
set_option linter.unusedVariables false

/-- An entry of a book. -/
structure Ent where
  kind : Int
  box : ByteArray
  uid : Int
  flags : Int
  dst : ByteArray
  text : ByteArray
deriving DecidableEq
/-- May a byte be in a box's name? -/
def rnB (c : UInt8) : Bool := 33 ≤ c && c ≤ 126
/-- What rule.Name answers. -/
def nameR (l : List UInt8) : Int := if l.length < 1 ∨ 12 < l.length then 1 else if l.all rnB = true then 0 else 3
/-- What an entry of its kind is allowed to have: the same entry without the rest. -/
def ownE (x : Ent) : Option Ent :=
  if x.kind = 1 ∨ x.kind = 4 then some ⟨x.kind, x.box, 0, 0, ⟨#[]⟩, ⟨#[]⟩⟩
  else if x.kind = 2 then some ⟨x.kind, x.box, 0, x.flags, ⟨#[]⟩, x.text⟩
  else if x.kind = 3 then some ⟨x.kind, x.box, x.uid, x.flags, ⟨#[]⟩, ⟨#[]⟩⟩
  else if x.kind = 5 then some ⟨x.kind, x.box, x.uid, 0, x.dst, ⟨#[]⟩⟩
  else if x.kind = 6 then some ⟨x.kind, ⟨#[]⟩, 0, 0, x.dst, x.text⟩
  else none
/-- Is a text a list of one address, and short? -/
def oneL (s : ByteArray) : Bool := match listL (s.size + 1) (s.size + 1) (bs s) with
  | some [a] => decide (s.size ≤ 100)
  | _ => false
/-- What box.Form answers. -/
def formR (x : Ent) : Int := match ownE x with
  | none => 2
  | some y => if x ≠ y then 3 else if x.flags < 0 ∨ 31 < x.flags ∨ x.uid < 0 ∨ 1048576 < x.uid then 6 else if 2000 < x.text.size then 1
    else if x.kind = 6 then (if oneL x.dst = true then 0 else 3)
    else if nameR (bs x.box) ≠ 0 then nameR (bs x.box) else if x.kind = 5 then nameR (bs x.dst) else 0
def entCells (e : Ent) : List Value := [.int .i64 e.kind, .string e.box, .int .i64 e.uid, .int .i64 e.flags, .string e.dst, .string e.text]
def entVal (e : Ent) : Value := .agg #[.int .i64 e.kind, .string e.box, .int .i64 e.uid, .int .i64 e.flags, .string e.dst, .string e.text]
def wide2 (n : Nat) : List UInt8 := [UInt8.ofNat (n / 256), UInt8.ofNat n]
def wide3 (n : Nat) : List UInt8 := [UInt8.ofNat (n / 65536), UInt8.ofNat (n / 256), UInt8.ofNat n]
def txtE (s : ByteArray) : List UInt8 := wide2 s.size ++ bs s
def encE (e : Ent) : List UInt8 := [UInt8.ofNat e.kind.toNat, UInt8.ofNat e.flags.toNat] ++ wide3 e.uid.toNat ++ (txtE e.box ++ (txtE e.dst ++ txtE e.text))
def encB (user : Nat) (es : List Ent) : List UInt8 := [UInt8.ofNat user, UInt8.ofNat es.length] ++ es.flatMap encE
/-- A number of so many bytes, the highest one first. -/
def numL (l : List UInt8) : Nat := l.foldl (fun n c => n * 256 + c.toNat) 0
end Go.Proofs.YtgmnoemkdigafaaDoor
namespace Go.Proofs.YtgmnoemkdigafaaDoor
open Go.RowKit
set_option linter.unusedVariables false

theorem rnB_of (c : UInt8) (h1 : 33 ≤ (c.toNat : Int)) (h2 : (c.toNat : Int) ≤ 126) : rnB c = true := by
  unfold rnB
  simp only [Bool.and_eq_true, decide_eq_true_eq, UInt8.le_iff_toNat_le]
  exact ⟨by show 33 ≤ c.toNat; omega, by show c.toNat ≤ 126; omega⟩
theorem rnB_not (c : UInt8) (h : (c.toNat : Int) < 33 ∨ 126 < (c.toNat : Int)) : rnB c = false := by
  rw [Bool.eq_false_iff]
  intro hn
  unfold rnB at hn
  simp only [Bool.and_eq_true, decide_eq_true_eq, UInt8.le_iff_toNat_le] at hn
  obtain ⟨h1, h2⟩ := hn
  have h1' : 33 ≤ c.toNat := h1
  have h2' : c.toNat ≤ 126 := h2
  omega
theorem mem_bs (s : ByteArray) (k : Nat) (h : k < s.size) : s[k] ∈ bs s := by
  have h2 : (bs s)[k]? = some s[k] := by
    show s.data.toList[k]? = _
    rw [List.getElem?_eq_getElem (by exact h)]; rfl
  exact List.mem_of_getElem? h2
set_option maxRecDepth 100000 in
set_option maxHeartbeats 1000000 in
theorem rname_calls (s : ByteArray) (w : World) (hs : s.size ≤ 9223372036854775807) :
    Calls Tryd.prog 78 #[.string s] w fun e w' => e = .returned (.int .i64 (nameR (bs s))) ∧ w = w' := by
  by_cases hlo : s.size < 1
  · have hr : nameR (bs s) = 1 := by unfold nameR; rw [if_pos (.inl (by rw [bs_len]; exact hlo))]
    have Hr := Lib.hid hr
    have hd : decide ((s.size : Int) < 1) = true := by simp; omega
    clear hr
    go_enter Tryd.func78, Tryd.ntmps78
    go_wp2
    go_ret
    exact ⟨by rw [Hr.out]; rfl, rfl⟩
  · by_cases hhi : 12 < s.size
    · have hr : nameR (bs s) = 1 := by unfold nameR; rw [if_pos (.inr (by rw [bs_len]; exact hhi))]
      have Hr := Lib.hid hr
      clear hr
      go_enter Tryd.func78, Tryd.ntmps78
      go_wp2
      go_ret
      exact ⟨by rw [Hr.out]; rfl, rfl⟩
    · have hr : nameR (bs s) = if (bs s).all rnB = true then 0 else 3 := by unfold nameR; rw [if_neg (by rw [bs_len]; omega)]
      have Hr := Lib.hid hr
      clear hr
      go_enter Tryd.func78, Tryd.ntmps78
      go_wp2_with fail
      go_loop [14] (fun i => ∃ k : Nat, k ≤ s.size ∧ i = .int .i64 k ∧ ((bs s).take k).all rnB = true) (fun i => s.size - (intOf i).toNat)
      case atStart => exact ⟨0, Nat.zero_le _, rfl, rfl⟩
      case round =>
        obtain ⟨k, hk, rfl, hg⟩ := hrel
        have Hall := Lib.hid hg
        clear hg
        by_cases hlt : k < s.size
        · have hcs := s[k].toNat_lt
          have hsn := take_snoc s k hlt
          by_cases hc : 33 ≤ (s[k].toNat : Int) ∧ (s[k].toNat : Int) ≤ 126
          · have hall : ((bs s).take (k + 1)).all rnB = true := by rw [hsn, List.all_append, Hall.out, List.all_cons, rnB_of _ hc.1 hc.2]; rfl
            have Hall2 := Lib.hid hall
            obtain ⟨hc1, hc2⟩ := hc
            have d1 : decide ((s[k].toNat : Int) < 33) = false := by simp; omega
            have d2 : decide (126 < (s[k].toNat : Int)) = false := by simp; omega
            clear hsn hall Hall Hr
            go_wp2
            go_round
            case rel => exact ⟨k + 1, by omega, by go_num, Hall2.out⟩
            case measure => simp [intOf]; omega
          · have hr : nameR (bs s) = 3 := by
              rw [Hr.out, if_neg]
              intro h2
              have := List.all_eq_true.1 h2 s[k] (mem_bs s k hlt)
              rw [rnB_not _ (by omega)] at this
              exact Bool.noConfusion this
            have Hr2 := Lib.hid hr
            clear hr Hr hsn Hall
            by_cases hd : (s[k].toNat : Int) < 33
            · have d2 : decide (126 < (s[k].toNat : Int)) = false := by simp; omega
              go_wp2
              go_ret
              exact ⟨by rw [Hr2.out]; rfl, rfl⟩
            · have hd2 : 126 < (s[k].toNat : Int) := by omega
              go_wp2
              go_ret
              exact ⟨by rw [Hr2.out]; rfl, rfl⟩
        · have hke : k = s.size := by omega
          subst hke
          have hall := Hall.out
          rw [take_full] at hall
          have hr : nameR (bs s) = 0 := by rw [Hr.out, if_pos hall]
          have Hr2 := Lib.hid hr
          clear hr Hr Hall hall
          go_wp2
          go_ret
          exact ⟨by rw [Hr2.out]; rfl, rfl⟩
end Go.Proofs.YtgmnoemkdigafaaDoor
namespace Go.Proofs.YtgmnoemkdigafaaDoor
open Go.RowKit

/-- A kind of values: what its cells say in a world. -/
structure Rk (α : Type) where
  sz : Nat
  K : World → α → List Value → Prop
  len : ∀ {w x cs}, K w x cs → cs.length = sz
  later : ∀ {w w' : World} {x cs}, Below w.heap.size w w' → K w x cs → K w' x cs

namespace Rk
/-- Values that lie in memory, one behind the other. -/
def At {α : Type} (d : Rk α) (w : World) (b off : Nat) (xs : List α) : Prop :=
  ∀ j, (h : j < xs.length) → ∃ cs, d.K w xs[j] cs ∧ ∀ i u, cs[i]? = some u → w.cell? ⟨b, off + (j * d.sz + i), none⟩ = some u
/-- A row of values at an address (none: there are none). -/
def Row {α : Type} (d : Rk α) (w : World) (A : Option Addr) (xs : List α) : Prop := xs = [] ∨ ∃ b off, A = some ⟨b, off, none⟩ ∧ d.At w b off xs
theorem At.later {α : Type} {d : Rk α} {w w' : World} {b off : Nat} {xs : List α} (hb : Below w.heap.size w w') (h : d.At w b off xs) : d.At w' b off xs := by
  intro j hj
  obtain ⟨cs, hk, hc⟩ := h j hj
  refine ⟨cs, d.later hb hk, fun i u hu => ?_⟩
  have h1 := hc i u hu
  obtain ⟨o, ho, _⟩ := cells_of_cell h1
  exact (hb.cell (p := ⟨b, off + (j * d.sz + i), none⟩) (Array.getElem?_eq_some_iff.1 ho).1).trans h1
theorem Row.later {α : Type} {d : Rk α} {w w' : World} {A : Option Addr} {xs : List α} (hb : Below w.heap.size w w') (h : d.Row w A xs) : d.Row w' A xs := by
  rcases h with h | ⟨b, off, e, h⟩
  · exact .inl h
  · exact .inr ⟨b, off, e, h.later hb⟩
/-- An element's cells. -/
theorem Row.get {α : Type} {d : Rk α} {w : World} {A : Option Addr} {xs : List α} (h : d.Row w A xs) (j : Nat) (hj : j < xs.length) :
    ∃ b off, A = some ⟨b, off, none⟩ ∧ ∃ cs, d.K w xs[j] cs ∧ ∀ i u, cs[i]? = some u → w.cell? ⟨b, off + (j * d.sz + i), none⟩ = some u := by
  rcases h with rfl | ⟨b, off, e, h⟩
  · simp at hj
  · exact ⟨b, off, e, h j hj⟩

def int (k : IntKind) : Rk Int where
  sz := 1
  K := fun _ x cs => cs = [.int k x] ∧ (Lit.int k x).wf = true
  len := fun h => by rw [h.1]; rfl
  later := fun _ h => h
def bool : Rk Bool where
  sz := 1
  K := fun _ x cs => cs = [.bool x]
  len := fun h => by rw [h]; rfl
  later := fun _ h => h
def str : Rk ByteArray where
  sz := 1
  K := fun _ x cs => cs = [.string x] ∧ x.size ≤ maxLen
  len := fun h => by rw [h.1]; rfl
  later := fun _ h => h
def unit : Rk Unit where
  sz := 0
  K := fun _ _ cs => cs = []
  len := fun h => by rw [h]; rfl
  later := fun _ h => h
def pair {α β : Type} (a : Rk α) (b : Rk β) : Rk (α × β) where
  sz := a.sz + b.sz
  K := fun w x cs => ∃ c1 c2, cs = c1 ++ c2 ∧ a.K w x.1 c1 ∧ b.K w x.2 c2
  len := by
    rintro w x cs ⟨c1, c2, rfl, h1, h2⟩
    rw [List.length_append, a.len h1, b.len h2]
  later := by
    rintro w w' x cs hb ⟨c1, c2, e, h1, h2⟩
    exact ⟨c1, c2, e, a.later hb h1, b.later hb h2⟩
def iso {α β : Type} (d : Rk α) (f : β → α) : Rk β where
  sz := d.sz
  K := fun w x cs => d.K w (f x) cs
  len := fun h => d.len h
  later := fun hb h => d.later hb h
def slice {α : Type} (d : Rk α) : Rk (List α) where
  sz := 1
  K := fun w xs cs => ∃ A c, cs = [.slice A xs.length c] ∧ xs.length ≤ c ∧ c ≤ maxLen ∧ (A = none → c = 0) ∧ d.Row w A xs
  len := by
    rintro w x cs ⟨A, c, rfl, _⟩
    rfl
  later := by
    rintro w w' x cs hb ⟨A, c, e, h1, h2, h3, h4⟩
    exact ⟨A, c, e, h1, h2, h3, h4.later hb⟩
end Rk

/-- What reads as data of type t has kind d. -/
def Opens (P : Program) (t : TypeId) {α : Type} (d : Rk α) : Prop :=
  ∀ {H : Type} (enc : TypeId × Value → H) (w : World) (base : Nat) (spare : Nat → Bool) (held : Bool) (fuel : Nat) (cs : List Value) (x : DataW H × List MemPlace), DataW.trod enc P w base spare held fuel t cs = some x → ∃ a, d.K w a cs

section
variable {P : Program} {t : TypeId}
theorem opens_int {k : IntKind} (ht : P.underlying t = some (.int k)) : Opens P t (Rk.int k) := by
  intro H enc w base spare held fuel cs x h
  obtain ⟨n, e, _, hw⟩ := DataW.trod_int ht h
  exact ⟨n, e, hw⟩
theorem opens_bool (ht : P.underlying t = some .bool) : Opens P t Rk.bool := by
  intro H enc w base spare held fuel cs x h
  obtain ⟨n, e, _⟩ := DataW.trod_bool ht h
  exact ⟨n, e⟩
theorem opens_str (ht : P.underlying t = some .string) : Opens P t Rk.str := by
  intro H enc w base spare held fuel cs x h
  obtain ⟨n, e, _, hs⟩ := DataW.trod_string ht h
  exact ⟨n, e, hs⟩
theorem opens_iso {α β : Type} {d : Rk α} {f : β → α} (h : Opens P t d) (g : α → β) (hg : ∀ a, f (g a) = a) : Opens P t (d.iso f) := by
  intro H enc w base spare held fuel cs x hx
  obtain ⟨a, ha⟩ := h enc w base spare held fuel cs x hx
  refine ⟨g a, ?_⟩
  show d.K w (f (g a)) cs
  rw [hg]; exact ha

theorem cell_plain {w : World} {a : Addr} {v : Value} (h : w.cell? a = some v) : a.spot = none := by
  unfold World.cell? at h
  split at h
  · rename_i c e f hb
    cases hs : a.spot with
    | none => rfl
    | some y => simp [hs] at h
  · simp at h

theorem mapM_get {α β : Type} {f : α → Option β} {l : List α} {r : List β} (h : l.mapM f = some r) (i : Nat) (hi : i < l.length) : ∃ b, r[i]? = some b ∧ f l[i] = some b := by
  obtain ⟨b, h1, h2⟩ := Lib.mapM_at h i l[i] (by simp [hi])
  exact ⟨b, h1, h2⟩

/-- Cells that are read together. -/
theorem cells_get {w : World} {base : Nat} {a : Addr} {n : Nat} {cs : List Value} (h : w.cells? base a n = some cs) : cs.length = n ∧ ∀ i u, cs[i]? = some u → w.cell? (a.add i) = some u := by
  unfold World.cells? at h
  split at h
  · have hl := Lib.mapM_length h
    rw [List.length_range] at hl
    refine ⟨hl, fun i u hu => ?_⟩
    have hi : i < n := by
      rw [← hl]; exact (List.getElem?_eq_some_iff.1 hu).1
    obtain ⟨b, h1, h2⟩ := mapM_get h i (by simpa using hi)
    rw [hu] at h1
    cases h1
    simpa using h2
  · cases h

theorem add_plain {a : Addr} (h : a.spot = none) (i : Nat) : a.add i = ⟨a.block, a.off + i, none⟩ := by
  cases a
  simp at h
  subst h
  unfold Addr.add; split <;> simp_all

theorem opens_slice {α : Type} {d : Rk α} {e : TypeId} (ht : P.underlying t = some (.slice e)) (hsz : P.cellsOf e = d.sz) (hpos : 0 < d.sz) (h : Opens P e d) : Opens P t d.slice := by
  intro H enc w base spare held fuel cs x hx
  rcases DataW.trod_slice ht hx with ⟨rfl, _⟩ | ⟨a, len, cap, elems, rest, n, _, rfl, _, _, hlc, hcm, hel, hget, _⟩
  · exact ⟨[], none, 0, rfl, Nat.le_refl _, Nat.zero_le _, fun _ => rfl, .inl rfl⟩
  · have one : ∀ i, i < len → ∃ v cs, d.K w v cs ∧ (a.add (i * d.sz)).spot = none ∧ ∀ k u, cs[k]? = some u → w.cell? ((a.add (i * d.sz)).add k) = some u := by
      intro i hi
      have h1 := hget i hi
      rw [List.getElem?_eq_getElem (by omega), hsz] at h1
      obtain ⟨cs, hcs, htr⟩ := Option.bind_eq_some_iff.1 h1
      obtain ⟨v, hv⟩ := h enc w base spare held n cs _ htr
      obtain ⟨hl, hc⟩ := cells_get hcs
      refine ⟨v, cs, hv, ?_, hc⟩
      have h0 : ∃ u, cs[0]? = some u := ⟨cs[0]'(by omega), by simp⟩
      obtain ⟨u, hu⟩ := h0
      have h2 := cell_plain (hc 0 u hu)
      revert h2
      unfold Addr.add
      split <;> simp_all
    have all : ∀ m, m ≤ len → ∃ xs : List α, xs.length = m ∧ ∀ j, (hj : j < xs.length) → ∃ cs, d.K w xs[j] cs ∧ (a.add (j * d.sz)).spot = none ∧ ∀ k u, cs[k]? = some u → w.cell? ((a.add (j * d.sz)).add k) = some u := by
      intro m
      induction m with
      | zero => exact fun _ => ⟨[], rfl, fun j hj => by simp at hj⟩
      | succ m ih =>
        intro hm
        obtain ⟨xs, hl, hx⟩ := ih (by omega)
        obtain ⟨v, cs, h1, h2⟩ := one m (by omega)
        refine ⟨xs ++ [v], by simp [hl], fun j hj => ?_⟩
        by_cases hjm : j < xs.length
        · rw [List.getElem_append_left hjm]
          exact hx j hjm
        · obtain rfl : j = xs.length := by simp at hj; omega
          rw [List.getElem_append_right (Nat.le_refl _)]
          simp only [Nat.sub_self, List.getElem_singleton]
          rw [hl]
          exact ⟨cs, h1, h2⟩
    obtain ⟨xs, hl, hx⟩ := all len (Nat.le_refl _)
    refine ⟨xs, some a, cap, by rw [hl], by omega, hcm, (fun e => by cases e), ?_⟩
    by_cases h0 : xs = []
    · exact .inl h0
    · have hpl : a.spot = none := by
        have hpos2 : 0 < xs.length := List.length_pos_iff.2 h0
        obtain ⟨cs, h1, h2, h3⟩ := hx 0 hpos2
        revert h2
        unfold Addr.add
        split <;> simp_all
      refine .inr ⟨a.block, a.off, by cases a; simp at hpl; subst hpl; rfl, fun j hj => ?_⟩
      obtain ⟨cs, h1, h2, h3⟩ := hx j hj
      refine ⟨cs, h1, fun i u hu => ?_⟩
      have h4 := h3 i u hu
      rw [add_plain hpl, add_plain rfl] at h4
      rw [← Nat.add_assoc]
      exact h4

/-- The fields of a struct, from one on. -/
def OpensF (P : Program) (fs : List Field) (off : Nat) {α : Type} (d : Rk α) : Prop :=
  ∀ {H : Type} (enc : TypeId × Value → H) (w : World) (base : Nat) (spare : Nat → Bool) (held : Bool) (fuel : Nat) (cs : List Value) (xs : List (DataW H × List MemPlace)), cs.length = off + d.sz → xs.length = fs.length →
    (∀ (i : Nat) (f : Field), fs[i]? = some f → DataW.trod enc P w base spare held fuel f.type ((cs.drop f.offset).take (P.cellsOf f.type)) = xs[i]?) → ∃ a, d.K w a (cs.drop off)
theorem opensF_nil (off : Nat) : OpensF P [] off Rk.unit := by
  intro H enc w base spare held fuel cs xs hl _ _
  exact ⟨(), List.drop_of_length_le (by rw [hl]; exact Nat.le_refl _)⟩
theorem opensF_cons {α β : Type} {a : Rk α} {b : Rk β} {f : Field} {fs : List Field} {off : Nat} (ho : f.offset = off) (hs : P.cellsOf f.type = a.sz) (h1 : Opens P f.type a) (h2 : OpensF P fs (off + a.sz) b) : OpensF P (f :: fs) off (a.pair b) := by
  intro H enc w base spare held fuel cs xs hl hx hget
  match xs, hx with
  | x :: xs, hx =>
    have g0 := hget 0 f rfl
    rw [ho, hs] at g0
    obtain ⟨u, hu⟩ := h1 enc w base spare held fuel _ x g0
    obtain ⟨v, hv⟩ := h2 enc w base spare held fuel cs xs (by rw [hl]; show off + (a.sz + b.sz) = _; omega) (by simpa using hx) (fun i g hg => by
      have := hget (i + 1) g (by simpa using hg)
      simpa using this)
    refine ⟨(u, v), (cs.drop off).take a.sz, cs.drop (off + a.sz), ?_, hu, hv⟩
    rw [← List.drop_drop, List.take_append_drop]
theorem opens_struct {α : Type} {d : Rk α} {fs : Array Field} (ht : P.underlying t = some (.struct fs)) (hc : P.cellsOf t = d.sz) (h : OpensF P fs.toList 0 d) : Opens P t d := by
  intro H enc w base spare held fuel cs x hx
  obtain ⟨xs, n, _, _, hl, hxs, hget⟩ := DataW.trod_struct ht hx
  have := h enc w base spare held n cs xs (by rw [hl, hc, Nat.zero_add]) (by simpa using hxs) (fun i f hf => hget i f (by simpa using hf))
  simpa using this
end
end Go.Proofs.YtgmnoemkdigafaaDoor
namespace Go.Proofs.YtgmnoemkdigafaaDoor
open Go.RowKit

theorem laidVars_at {P : Program} {W : World} : ∀ {laid : List (String × DataW Unit)} {ps : List MemPlace}, DataW.LaidVars P W laid ps → ∀ {n : String} {d : DataW Unit}, (n, d) ∈ laid →
    ∃ g t cs fuel p, P.globalNamed n = some g ∧ (P.globals[g]?).map (·.type) = some t ∧ W.var? P n = some cs ∧ DataW.trod (fun _ => ()) P W 0 (fun _ => true) false fuel t cs.toList = some (d, p)
  | [], _, _, _, _, hm => by simp at hm
  | (n, d) :: r, ps, h, n', d', hm => by
    obtain ⟨g, t, cs, fuel, p, q, h1, h2, h3, h4, h5, _⟩ := h
    rcases List.mem_cons.1 hm with e | hm
    · cases e
      exact ⟨g, t, cs, fuel, p, h1, h2, h3, h4⟩
    · exact laidVars_at h5 hm
theorem laid_at {P : Program} {W : World} {laid : List (String × DataW Unit)} (h : laidMet P laid W) {n : String} {d : DataW Unit} (hm : (n, d) ∈ laid) {g : Nat} {t : TypeId} (hg : P.globalNamed n = some g) (ht : (P.globals[g]?).map (·.type) = some t) :
    ∃ cs fuel p, W.var? P n = some cs ∧ DataW.trod (fun _ => ()) P W 0 (fun _ => true) false fuel t cs.toList = some (d, p) := by
  obtain ⟨ps, hl, _⟩ := h
  obtain ⟨g', t', cs, fuel, p, h1, h2, h3, h4⟩ := laidVars_at hl hm
  obtain rfl := Option.some.inj (hg.symm.trans h1)
  obtain rfl := Option.some.inj (ht.symm.trans h2)
  exact ⟨cs, fuel, p, h3, h4⟩
/-- The data of an array of strings. -/
def strsData {H : Type} (ss : List (List UInt8)) : DataW H := .agg (ss.map fun s => .lit (.string s))
theorem strs_at {P : Program} {W : World} {laid : List (String × DataW Unit)} (h : laidMet P laid W) {n : String} {ss : List (List UInt8)} {g k : Nat} {t e : TypeId} (hg : P.globalNamed n = some g) (ht : (P.globals[g]?).map (·.type) = some t)
    (hu : P.underlying t = some (.array k e)) (he : P.underlying e = some .string) (hc : P.cellsOf e = 1) (hm : (n, strsData ss) ∈ laid) :
    ∀ i, i < ss.length → W.cell? ⟨g, i, none⟩ = some (.string ⟨(ss.getD i []).toArray⟩) := by
  obtain ⟨cs, fuel, p, hv, htr⟩ := laid_at h hm hg ht
  obtain ⟨xs, m, _, hx, _, hxl, hget⟩ := DataW.trod_array hu htr
  have hxs : xs.map (·.1) = ss.map fun s => (.lit (.string s) : DataW Unit) := by
    have := congrArg Prod.fst hx
    simpa [strsData] using this.symm
  have hl : xs.length = ss.length := by
    have := congrArg List.length hxs
    simpa using this
  intro i hi
  have h1 := hget i (by omega)
  rw [hc, Nat.mul_one, List.getElem?_eq_getElem (by omega)] at h1
  obtain ⟨s, hs, hd, _⟩ := DataW.trod_string he h1
  have h2 : (xs.map (·.1))[i]? = (ss.map fun s => (.lit (.string s) : DataW Unit))[i]? := by rw [hxs]
  rw [List.getElem?_map, List.getElem?_map, List.getElem?_eq_getElem (by omega), List.getElem?_eq_getElem hi, hd] at h2
  simp only [Option.map_some, Option.some.injEq, DataW.lit.injEq, Lit.string.injEq] at h2
  rw [World.var?_cell hg hv i]
  have h3 : cs.toList[i]? = some (.string s) := by
    have := congrArg (·[0]?) hs
    simpa [List.getElem?_take, List.getElem?_drop] using this
  have h4 : cs[i]? = some (.string s) := by simpa using h3
  rw [h4, List.getD_eq_getElem?_getD, List.getElem?_eq_getElem hi, Option.getD_some, ← h2]
end Go.Proofs.YtgmnoemkdigafaaDoor
namespace Go.Proofs.YtgmnoemkdigafaaDoor
open Go.RowKit

/-- The names of flags, by their bits. -/
def namesL : List (List UInt8) := [[92, 83, 101, 101, 110], [92, 65, 110, 115, 119, 101, 114, 101, 100], [92, 70, 108, 97, 103, 103, 101, 100], [92, 68, 101, 108, 101, 116, 101, 100], [92, 68, 114, 97, 102, 116]]
def namesB : List ByteArray := namesL.map fun l => ⟨l.toArray⟩
/-- What Flags returns. -/
def flagsF : Nat → List ByteArray → Nat × Nat
  | a, [] => (a, 0)
  | a, s :: l => if Lib.idxOfS namesB s < 0 then (0, 7) else flagsF (a ||| 2 ^ (Lib.idxOfS namesB s).toNat) l
theorem idxOfS_ge (s : ByteArray) (h : ¬ Lib.idxOfS namesB s < 0) : ∃ k : Nat, k < 5 ∧ Lib.idxOfS namesB s = k := by
  have h1 : s ∈ namesB := (Lib.idxOfS_nonneg_iff _ _).1 (by omega)
  simp only [namesB, namesL, List.map_cons, List.map_nil, List.mem_cons, List.mem_nil_iff, or_false] at h1
  rcases h1 with rfl | rfl | rfl | rfl | rfl
  · exact ⟨0, by decide, by decide⟩
  · exact ⟨1, by decide, by decide⟩
  · exact ⟨2, by decide, by decide⟩
  · exact ⟨3, by decide, by decide⟩
  · exact ⟨4, by decide, by decide⟩
theorem or_lt32 (a k : Nat) (ha : a < 32) (hk : k < 5) : a ||| 2 ^ k < 32 :=
  Nat.or_lt_two_pow (n := 5) ha (Nat.pow_lt_pow_right (by decide) hk)
theorem or_bits (a q : Nat) (ha : a < 32) (hq : q < 5) : bits BinOp.or IntKind.i64 (a : Int) (wrap64 (2 ^ q)) = ((a ||| 2 ^ q : Nat) : Int) := by
  have h : ∀ x : Fin 32, ∀ y : Fin 5, bits BinOp.or IntKind.i64 ((x.val : Nat) : Int) (wrap64 (2 ^ y.val)) = ((x.val ||| 2 ^ y.val : Nat) : Int) := by decide +kernel
  exact h ⟨a, ha⟩ ⟨q, hq⟩
/-- The cells of the table of names. -/
def NamesAt (w : World) : Prop := ∀ i, i < namesB.length → w.cell? ⟨0, 0 + i, none⟩ = some (.string (namesB.getD i ByteArray.empty))
theorem cell_after {w w' : World} {a : Addr} {v : Value} (hb : Below w.heap.size w w') (h : w.cell? a = some v) : w'.cell? a = some v := by
  obtain ⟨o, ho, _⟩ := cells_of_cell h
  exact (hb.cell (p := a) (Array.getElem?_eq_some_iff.1 ho).1).trans h
theorem NamesAt.later {w w' : World} (hb : Below w.heap.size w w') (h : NamesAt w) : NamesAt w' := fun i hi => cell_after hb (h i hi)

set_option maxRecDepth 100000 in
set_option maxHeartbeats 1000000 in
theorem flags_calls (b off c : Nat) (zs : List ByteArray) (w : World) (hbig : zs.length ≤ 9223372036854775807) (hN : NamesAt w) (hc : ∀ j, j < zs.length → w.cell? ⟨b, off + j, none⟩ = some (.string (zs.getD j ByteArray.empty))) :
    Calls Tryd.prog 14 #[.slice (some ⟨b, off, none⟩) zs.length c] w fun e w' => e = .returned (.tuple #[.int .i64 (flagsF 0 zs).1, .int .i64 (flagsF 0 zs).2]) ∧ w' = w := by
  go_enter Tryd.func14, Tryd.ntmps14
  go_wp2_with fail
  go_loopw [2, 3, 4, 10] (fun r s v i wr => ∃ k a : Nat, k ≤ zs.length ∧ r = .int .i64 0 ∧ s = .int .i64 0 ∧ i = .int .i64 k ∧ v = .int .i64 a ∧ a < 32 ∧ flagsF a (zs.drop k) = flagsF 0 zs ∧ wr = w) (fun _ _ _ i _ => zs.length - (intOf i).toNat)
  case atStart => exact ⟨0, 0, Nat.zero_le _, rfl, rfl, rfl, rfl, by decide, rfl, rfl⟩
  case round =>
    obtain ⟨k, a, hk, rfl, rfl, rfl, rfl, ha, hf, rfl⟩ := hrel
    by_cases hlt : k < zs.length
    · have ck := hc k hlt
      generalize hy : zs.getD k ByteArray.empty = y at ck
      have hd : zs.drop k = y :: zs.drop (k + 1) := by
        rw [List.drop_eq_getElem_cons hlt, ← hy, List.getD_eq_getElem?_getD, List.getElem?_eq_getElem hlt, Option.getD_some]
      rw [hd] at hf
      clear hd hy hc
      by_cases hneg : Lib.idxOfS namesB y < 0
      · have hf2 : flagsF 0 zs = (0, 7) := by rw [← hf, flagsF, if_pos hneg]
        have Hf := Lib.hid hf2
        clear hf hf2
        go_wp2_with fail
        refine (Tryd.slices_Index_string 0 0 5 5 namesB y _ (by decide) (by decide) hN).mono ?_
        rintro e w' ⟨rfl, rfl⟩
        rw [show namesB.take 5 = namesB from rfl]
        go_wp2
        go_ret2
        exact ⟨by rw [Hf.out]; rfl, rfl⟩
      · obtain ⟨q, hq5, hq⟩ := idxOfS_ge y hneg
        have hf2 : flagsF (a ||| 2 ^ q) (zs.drop (k + 1)) = flagsF 0 zs := by
          rw [← hf, flagsF, if_neg hneg, hq]; rfl
        have hlt2 := or_lt32 a q ha hq5
        have Hf := Lib.hid hf2
        have Hl := Lib.hid hlt2
        clear hf hf2 hlt2 hneg
        go_wp2_with fail
        refine (Tryd.slices_Index_string 0 0 5 5 namesB y _ (by decide) (by decide) hN).mono ?_
        rintro e w' ⟨rfl, rfl⟩
        rw [show namesB.take 5 = namesB from rfl, hq]
        go_wp2
        go_roundw
        case rel => exact ⟨k + 1, a ||| 2 ^ q, by omega, rfl, rfl, by go_num, by rw [or_bits a q ha hq5], Hl.out, Hf.out, trivial⟩
        case measure => simp [intOf]; omega
    · have hf2 : flagsF a [] = flagsF 0 zs := by rw [← hf, List.drop_of_length_le (by omega)]
      have Hf := Lib.hid hf2
      clear hf hf2 hc
      go_wp2
      go_ret2
      exact ⟨by rw [← Hf.out]; rfl, rfl⟩

set_option maxHeartbeats 1000000 in
theorem flags_calls0 (A : Option Addr) (c : Nat) (w : World) :
    Calls Tryd.prog 14 #[.slice A 0 c] w fun e w' => e = .returned (.tuple #[.int .i64 0, .int .i64 0]) ∧ w' = w := by
  go_enter Tryd.func14, Tryd.ntmps14
  go_wp2_with fail
  go_loopw [2, 3, 4, 10] (fun r s v i wr => r = .int .i64 0 ∧ s = .int .i64 0 ∧ v = .int .i64 0 ∧ i = .int .i64 0 ∧ wr = w) (fun _ _ _ _ _ => 0)
  case atStart => exact ⟨rfl, rfl, rfl, rfl, rfl⟩
  case round =>
    obtain ⟨rfl, rfl, rfl, rfl, rfl⟩ := hrel
    go_wp2
    go_ret2
    exact ⟨rfl, rfl⟩
/-- A list of strings in memory. -/
def StrsF (w : World) (A : Option Addr) (zs : List ByteArray) : Prop := zs = [] ∨ ∃ b off, A = some ⟨b, off, none⟩ ∧ ∀ j, j < zs.length → w.cell? ⟨b, off + j, none⟩ = some (.string (zs.getD j ByteArray.empty))
theorem StrsF.later {w w' : World} {A : Option Addr} {zs : List ByteArray} (hb : Below w.heap.size w w') (h : StrsF w A zs) : StrsF w' A zs := by
  rcases h with h | ⟨b, off, e, h⟩
  · exact .inl h
  · exact .inr ⟨b, off, e, fun j hj => cell_after hb (h j hj)⟩
theorem flags_any (A : Option Addr) (c : Nat) (zs : List ByteArray) (w : World) (hbig : zs.length ≤ 9223372036854775807) (hN : NamesAt w) (hA : StrsF w A zs) :
    Calls Tryd.prog 14 #[.slice A zs.length c] w fun e w' => e = .returned (.tuple #[.int .i64 (flagsF 0 zs).1, .int .i64 (flagsF 0 zs).2]) ∧ w' = w := by
  rcases hA with rfl | ⟨b, off, rfl, hc⟩
  · exact flags_calls0 A c w
  · exact flags_calls b off c zs w hbig hN hc
end Go.Proofs.YtgmnoemkdigafaaDoor
namespace Go.Proofs.YtgmnoemkdigafaaDoor
open Go.RowKit
set_option linter.unusedVariables false

set_option maxRecDepth 100000 in
set_option maxHeartbeats 4000000 in
theorem list_big (s : ByteArray) (w : World) (hs : 2000 < s.size) :
    Calls Tryd.prog 79 #[.string s] w fun e w' => e = .returned (.tuple #[.slice none 0 0, .int .i64 1]) ∧ Below w.heap.size w w' := by
  have hbg : (2000 : Int) < (s.size : Int) := by omega
  go_enter_defers Tryd.func79, Tryd.ntmps79
  go_wp2_with fail
  have hb : Below w.heap.size w ((w.alloc (.cells #[.slice none 0 0] 128)).alloc (.cells #[.int .i64 1] 25)) := bal (bal (Below.refl _ w) _) _
  exact ⟨.tuple #[.slice none 0 0, .int .i64 1], by simp [results, Tryd.results79, go_sem], rfl, hb⟩
end Go.Proofs.YtgmnoemkdigafaaDoor
namespace Go.Proofs.YtgmnoemkdigafaaDoor
open Go.RowKit
set_option linter.unusedVariables false

set_option maxRecDepth 100000 in
set_option maxHeartbeats 1000000 in
theorem rname_any (s : ByteArray) (w : World) :
    Calls Tryd.prog 78 #[.string s] w fun e w' => e = .returned (.int .i64 (nameR (bs s))) ∧ w = w' := by
  by_cases hs : s.size ≤ 9223372036854775807
  · exact rname_calls s w hs
  · have hhi : 12 < s.size := by omega
    have hlo : ¬ s.size < 1 := by omega
    have hr : nameR (bs s) = 1 := by unfold nameR; rw [if_pos (.inr (by rw [bs_len]; exact hhi))]
    have Hr := Lib.hid hr
    clear hr hs
    go_enter Tryd.func78, Tryd.ntmps78
    go_wp2
    go_ret
    exact ⟨by rw [Hr.out]; rfl, rfl⟩
/-- What a command that is no if answers: the first text as a box's name; the texts as flags; the first text as an address. -/
def hdS (tx : List ByteArray) : ByteArray := tx.headD (mkS [])
def oneAdr (R : Option (List Adr)) : Int := match R with
  | some [_] => 0
  | _ => 3
def adrRl (s : ByteArray) : Int := if 2000 < s.size then 3 else oneAdr (listL (s.size + 1) (s.size + 1) (bs s))
theorem adr_list (s : ByteArray) (m : Int) (w : World) (hm : w.cell? ⟨6, 0, none⟩ = some (.int .i64 m)) :
    Calls Tryd.prog 79 #[.string s] w fun e w' => ∃ (Al : Option Addr) (nl cl : Nat) (er : Int), e = .returned (.tuple #[.slice Al nl cl, .int .i64 er]) ∧ Below w.heap.size w w' ∧
      (er ≠ 0 ∧ adrRl s = 3 ∨ er = 0 ∧ nl ≠ 1 ∧ adrRl s = 3 ∨ er = 0 ∧ nl = 1 ∧ adrRl s = 0) := by
  by_cases hs : 2000 < s.size
  · refine (list_big s w hs).mono ?_
    rintro e w' ⟨rfl, hb⟩
    exact ⟨none, 0, 0, 1, rfl, hb, .inl ⟨by decide, by unfold adrRl; rw [if_pos hs]⟩⟩
  · refine (list_calls s m w (by omega) hm _ rfl).mono ?_
    rintro e w' ⟨v, err, rfl, hb, hR⟩
    generalize hl : listL (s.size + 1) (s.size + 1) (bs s) = R at *
    have ha : adrRl s = oneAdr R := by unfold adrRl; rw [if_neg hs, hl]
    match R, hR with
    | none, hR =>
      obtain ⟨rfl, rfl⟩ := hR
      exact ⟨none, 0, 0, 3, rfl, hb, .inl ⟨by decide, ha⟩⟩
    | some l, hR =>
      dsimp only at hR
      by_cases h20 : 20 < l.length
      · rw [if_pos h20] at hR
        obtain ⟨rfl, rfl⟩ := hR
        refine ⟨none, 0, 0, 5, rfl, hb, .inl ⟨by decide, ?_⟩⟩
        rw [ha]
        match l, h20 with
        | _ :: _ :: _, _ => rfl
      · rw [if_neg h20] at hR
        obtain ⟨rfl, hrow⟩ := hR
        obtain ⟨Al, cl, rfl⟩ := own_sl hrow
        refine ⟨Al, l.length, cl, 0, rfl, hb, .inr ?_⟩
        rw [ha]
        match l with
        | [] => exact .inl ⟨rfl, by simp, rfl⟩
        | [_] => exact .inr ⟨rfl, rfl, rfl⟩
        | _ :: _ :: _ => exact .inl ⟨rfl, by simp, rfl⟩
def leafR (has : ByteArray → Bool) (k : Int) (tx : List ByteArray) : Int :=
  judL (fun tx => nameR (bs (hdS tx))) (fun tx => ((flagsF 0 tx).2 : Int)) (fun tx => adrRl (hdS tx)) has k tx
/-- The world in which a script is judged: what it has required, the names of flags. -/
def EnvR (has : List ByteArray) (b : Nat) (w : World) : Prop := HasAt w b has ∧ NamesAt w ∧ ∃ m, w.cell? ⟨6, 0, none⟩ = some (.int .i64 m)
theorem EnvR.later {has : List ByteArray} {b : Nat} {w w' : World} (hb : Below w.heap.size w w') (h : EnvR has b w) : EnvR has b w' := by
  obtain ⟨h1, h2, m, h3⟩ := h
  exact ⟨h1.later hb, h2.later hb, m, cell_later hb h3⟩
def CkR (has : List ByteArray) (b : Nat) (c : Cmd) : Prop := ∀ (vs : List Value) (w : World), CmdV w c vs → EnvR has b w →
  Calls Tryd.prog 58 #[.pointer (some ⟨b, 0, none⟩), .agg vs.toArray] w fun e w' => e = .returned (.int .i64 (judC leafR (inS has) c)) ∧ Below w.heap.size w w'
def CkRs (has : List ByteArray) (b : Nat) (cs : List Cmd) : Prop := ∀ (A : Option Addr) (cp : Nat) (w : World), CmdsAt w cs A → EnvR has b w → cs.length ≤ 1000000 →
  Calls Tryd.prog 38 #[.pointer (some ⟨b, 0, none⟩), .slice A cs.length cp] w fun e w' => e = .returned (.int .i64 (judCs leafR (inS has) cs)) ∧ Below w.heap.size w w'
theorem txAt_str {w : World} {A : Option Addr} {zs : List ByteArray} (h : TxAt w A zs) : StrsF w A zs := by
  rcases h with h | ⟨g, off, e, hc⟩
  · exact .inl h
  · exact .inr ⟨g, off, e, fun j hj => hc j _ (by rw [List.getD_eq_getElem?_getD, List.getElem?_eq_getElem hj]; rfl)⟩


set_option maxRecDepth 100000 in
set_option maxHeartbeats 8000000 in
theorem rcmd_1 (has : List ByteArray) (b : Nat) (tx : List ByteArray) (t : Tst) (th el : List Cmd) : CkR has b (.mk 1 tx t th el) := by
  intro vs w hv hE
  obtain ⟨Ax, cx, k2, m2, p, lm, o, An, Ak, At, nn, cn, nk, ck, nt, ct, Ah, ch, Ae, ce, rfl, htx, htv, hth, hel, hle⟩ := cmdV_cells hv
  clear hv
  have hb1 : Below w.heap.size w (w.alloc (.cells #[.int .i64 1, .slice Ax tx.length cx, .int .i64 k2, .int .i64 m2, .int .i64 p, .slice An nn cn, .slice Ak nk ck, .bool o, .int .i64 lm, .slice At nt ct, .slice Ah th.length ch, .slice Ae el.length ce] 34)) := bal (Below.refl _ w) _
  have hT := Bk.new w [.int .i64 1, .slice Ax tx.length cx, .int .i64 k2, .int .i64 m2, .int .i64 p, .slice An nn cn, .slice Ak nk ck, .bool o, .int .i64 lm, .slice At nt ct, .slice Ah th.length ch, .slice Ae el.length ce] 34
  generalize hres : judC leafR (inS has) (.mk 1 tx t th el) = res at *
  rw [judC, if_neg (by decide)] at hres
  unfold leafR judL at hres
  rw [if_pos rfl] at hres
  subst hres
  clear htv hth hel
  have HT := Lib.hid hT
  have Hb1 := Lib.hid hb1
  have Htx := Lib.hid htx
  have HE := Lib.hid (hE.later hb1)
  clear hT hb1 htx hE
  go_enter Tryd.func58, Tryd.ntmps58
  go_upto_region 1 with fail
  generalize w.alloc (.cells #[.int .i64 1, .slice Ax tx.length cx, .int .i64 k2, .int .i64 m2, .int .i64 p, .slice An nn cn, .slice Ak nk ck, .bool o, .int .i64 lm, .slice At nt ct, .slice Ah th.length ch, .slice Ae el.length ce] 34) = w1 at *
  have x0 := HT.out.cell 0 _ rfl
  go_wp2_with fail
  go_ret
  exact ⟨rfl, Hb1.out⟩

set_option maxRecDepth 100000 in
set_option maxHeartbeats 8000000 in
theorem rcmd_3 (has : List ByteArray) (b : Nat) (tx : List ByteArray) (t : Tst) (th el : List Cmd) : CkR has b (.mk 3 tx t th el) := by
  intro vs w hv hE
  obtain ⟨Ax, cx, k2, m2, p, lm, o, An, Ak, At, nn, cn, nk, ck, nt, ct, Ah, ch, Ae, ce, rfl, htx, htv, hth, hel, hle⟩ := cmdV_cells hv
  clear hv
  have hb1 : Below w.heap.size w (w.alloc (.cells #[.int .i64 3, .slice Ax tx.length cx, .int .i64 k2, .int .i64 m2, .int .i64 p, .slice An nn cn, .slice Ak nk ck, .bool o, .int .i64 lm, .slice At nt ct, .slice Ah th.length ch, .slice Ae el.length ce] 34)) := bal (Below.refl _ w) _
  have hT := Bk.new w [.int .i64 3, .slice Ax tx.length cx, .int .i64 k2, .int .i64 m2, .int .i64 p, .slice An nn cn, .slice Ak nk ck, .bool o, .int .i64 lm, .slice At nt ct, .slice Ah th.length ch, .slice Ae el.length ce] 34
  generalize hres : judC leafR (inS has) (.mk 3 tx t th el) = res at *
  rw [judC, if_neg (by decide)] at hres
  unfold leafR judL at hres
  simp at hres
  subst hres
  clear htv hth hel
  have HT := Lib.hid hT
  have Hb1 := Lib.hid hb1
  have Htx := Lib.hid htx
  have HE := Lib.hid (hE.later hb1)
  clear hT hb1 htx hE
  go_enter Tryd.func58, Tryd.ntmps58
  go_upto_region 1 with fail
  generalize w.alloc (.cells #[.int .i64 3, .slice Ax tx.length cx, .int .i64 k2, .int .i64 m2, .int .i64 p, .slice An nn cn, .slice Ak nk ck, .bool o, .int .i64 lm, .slice At nt ct, .slice Ah th.length ch, .slice Ae el.length ce] 34) = w1 at *
  have x0 := HT.out.cell 0 _ rfl
  go_wp2_with fail
  go_ret
  exact ⟨rfl, Hb1.out⟩

set_option maxRecDepth 100000 in
set_option maxHeartbeats 8000000 in
theorem rcmd_4 (has : List ByteArray) (b : Nat) (tx : List ByteArray) (t : Tst) (th el : List Cmd) : CkR has b (.mk 4 tx t th el) := by
  intro vs w hv hE
  obtain ⟨Ax, cx, k2, m2, p, lm, o, An, Ak, At, nn, cn, nk, ck, nt, ct, Ah, ch, Ae, ce, rfl, htx, htv, hth, hel, hle⟩ := cmdV_cells hv
  clear hv
  have hb1 : Below w.heap.size w (w.alloc (.cells #[.int .i64 4, .slice Ax tx.length cx, .int .i64 k2, .int .i64 m2, .int .i64 p, .slice An nn cn, .slice Ak nk ck, .bool o, .int .i64 lm, .slice At nt ct, .slice Ah th.length ch, .slice Ae el.length ce] 34)) := bal (Below.refl _ w) _
  have hT := Bk.new w [.int .i64 4, .slice Ax tx.length cx, .int .i64 k2, .int .i64 m2, .int .i64 p, .slice An nn cn, .slice Ak nk ck, .bool o, .int .i64 lm, .slice At nt ct, .slice Ah th.length ch, .slice Ae el.length ce] 34
  generalize hres : judC leafR (inS has) (.mk 4 tx t th el) = res at *
  rw [judC, if_neg (by decide)] at hres
  unfold leafR judL at hres
  simp at hres
  subst hres
  clear htv hth hel
  have HT := Lib.hid hT
  have Hb1 := Lib.hid hb1
  have Htx := Lib.hid htx
  have HE := Lib.hid (hE.later hb1)
  clear hT hb1 htx hE
  go_enter Tryd.func58, Tryd.ntmps58
  go_upto_region 1 with fail
  generalize w.alloc (.cells #[.int .i64 4, .slice Ax tx.length cx, .int .i64 k2, .int .i64 m2, .int .i64 p, .slice An nn cn, .slice Ak nk ck, .bool o, .int .i64 lm, .slice At nt ct, .slice Ah th.length ch, .slice Ae el.length ce] 34) = w1 at *
  have x0 := HT.out.cell 0 _ rfl
  go_wp2_with fail
  go_ret
  exact ⟨rfl, Hb1.out⟩

set_option maxRecDepth 100000 in
set_option maxHeartbeats 8000000 in
theorem rcmd_10 (has : List ByteArray) (b : Nat) (tx : List ByteArray) (t : Tst) (th el : List Cmd) : CkR has b (.mk 10 tx t th el) := by
  intro vs w hv hE
  obtain ⟨Ax, cx, k2, m2, p, lm, o, An, Ak, At, nn, cn, nk, ck, nt, ct, Ah, ch, Ae, ce, rfl, htx, htv, hth, hel, hle⟩ := cmdV_cells hv
  clear hv
  have hb1 : Below w.heap.size w (w.alloc (.cells #[.int .i64 10, .slice Ax tx.length cx, .int .i64 k2, .int .i64 m2, .int .i64 p, .slice An nn cn, .slice Ak nk ck, .bool o, .int .i64 lm, .slice At nt ct, .slice Ah th.length ch, .slice Ae el.length ce] 34)) := bal (Below.refl _ w) _
  have hT := Bk.new w [.int .i64 10, .slice Ax tx.length cx, .int .i64 k2, .int .i64 m2, .int .i64 p, .slice An nn cn, .slice Ak nk ck, .bool o, .int .i64 lm, .slice At nt ct, .slice Ah th.length ch, .slice Ae el.length ce] 34
  generalize hres : judC leafR (inS has) (.mk 10 tx t th el) = res at *
  rw [judC, if_neg (by decide)] at hres
  unfold leafR judL at hres
  simp at hres
  subst hres
  clear htv hth hel
  have HT := Lib.hid hT
  have Hb1 := Lib.hid hb1
  have Htx := Lib.hid htx
  have HE := Lib.hid (hE.later hb1)
  clear hT hb1 htx hE
  go_enter Tryd.func58, Tryd.ntmps58
  go_upto_region 1 with fail
  generalize w.alloc (.cells #[.int .i64 10, .slice Ax tx.length cx, .int .i64 k2, .int .i64 m2, .int .i64 p, .slice An nn cn, .slice Ak nk ck, .bool o, .int .i64 lm, .slice At nt ct, .slice Ah th.length ch, .slice Ae el.length ce] 34) = w1 at *
  have x0 := HT.out.cell 0 _ rfl
  go_wp2_with fail
  go_ret
  exact ⟨rfl, Hb1.out⟩

set_option maxRecDepth 100000 in
set_option maxHeartbeats 8000000 in
theorem rcmd_5 (has : List ByteArray) (b : Nat) (tx : List ByteArray) (t : Tst) (th el : List Cmd) (hl1 : tx.length = 1) : CkR has b (.mk 5 tx t th el) := by
  intro vs w hv hE
  obtain ⟨Ax, cx, k2, m2, p, lm, o, An, Ak, At, nn, cn, nk, ck, nt, ct, Ah, ch, Ae, ce, rfl, htx, htv, hth, hel, hle⟩ := cmdV_cells hv
  clear hv
  have hb1 : Below w.heap.size w (w.alloc (.cells #[.int .i64 5, .slice Ax tx.length cx, .int .i64 k2, .int .i64 m2, .int .i64 p, .slice An nn cn, .slice Ak nk ck, .bool o, .int .i64 lm, .slice At nt ct, .slice Ah th.length ch, .slice Ae el.length ce] 34)) := bal (Below.refl _ w) _
  have hT := Bk.new w [.int .i64 5, .slice Ax tx.length cx, .int .i64 k2, .int .i64 m2, .int .i64 p, .slice An nn cn, .slice Ak nk ck, .bool o, .int .i64 lm, .slice At nt ct, .slice Ah th.length ch, .slice Ae el.length ce] 34
  generalize hres : judC leafR (inS has) (.mk 5 tx t th el) = res at *
  rw [judC, if_neg (by decide)] at hres
  unfold leafR judL at hres
  rw [if_neg (by decide), if_pos rfl] at hres
  have Hres := Lib.hid hres
  clear hres
  obtain ⟨g, off, s, rfl, hs0, ht0⟩ := txAt_get (r := 0) htx (by omega)
  rw [Nat.add_zero] at ht0
  have Ht0 := Lib.hid (cell_later hb1 ht0)
  have hhd : hdS tx = s := by
    match tx, hl1, hs0 with
    | [a], _, h => simpa [hdS] using h
  have Hhd := Lib.hid hhd
  have hl0 : 0 < tx.length := by omega
  clear hs0 ht0 hhd hl1
  have HT := Lib.hid hT
  have Hb1 := Lib.hid hb1
  have Htx := Lib.hid htx
  have HE := Lib.hid (hE.later hb1)
  clear hT hb1 htx hE
  go_enter Tryd.func58, Tryd.ntmps58
  go_upto_region 1 with fail
  generalize w.alloc (.cells #[.int .i64 5, .slice (some ⟨g, off, none⟩) tx.length cx, .int .i64 k2, .int .i64 m2, .int .i64 p, .slice An nn cn, .slice Ak nk ck, .bool o, .int .i64 lm, .slice At nt ct, .slice Ah th.length ch, .slice Ae el.length ce] 34) = w1 at *
  have x0 := HT.out.cell 0 _ rfl
  have hnd := need_calls b has fileS w1 (by decide) HE.out.1
  cases hev : inS has fileS with
  | false =>
    rw [hev, if_neg (by simp)] at hnd
    have Hnd := Lib.hid hnd
    have hr8 : res = 8 := by rw [← Hres.out, if_pos hev]
    subst hr8
    clear hnd hev htv hth hel
    go_wp2_with (go_at_call 77; refine Hnd.out.mono ?_; rintro e w2 ⟨rfl, hb2⟩; have Hb2 := Lib.hid (btr Hb1.out hb2); clear hb2)
    go_ret
    exact ⟨rfl, Hb2.out⟩
  | true =>
    rw [hev, if_pos rfl] at hnd
    have Hnd := Lib.hid hnd
    have hr := Hres.out
    rw [if_neg (by rw [hev]; simp)] at hr
    try dsimp only at hr
    clear hnd hev htv hth hel
    have hnm := Lib.hid (fun W => rname_any s W)
    (try dsimp only at hr)
    rw [Hhd.out] at hr
    subst hr
    go_upto_region 16 with (go_at_call 77; refine Hnd.out.mono ?_; rintro e w2 ⟨rfl, hb2⟩; have HT2 := Lib.hid (HT.out.later hb2); have Hb2 := Lib.hid (btr Hb1.out hb2); have Ht2 := Lib.hid (cell_later hb2 Ht0.out); clear hb2)
    clear x0
    have x1 := HT2.out.cell 1 _ rfl
    have t0 := Ht2.out
    go_wp2_with (go_at_call 78; refine (hnm.out _).mono ?_; rintro e w3 ⟨rfl, rfl⟩)
    go_ret
    exact ⟨rfl, Hb2.out⟩

set_option maxRecDepth 100000 in
set_option maxHeartbeats 8000000 in
theorem rcmd_7 (has : List ByteArray) (b : Nat) (tx : List ByteArray) (t : Tst) (th el : List Cmd) : CkR has b (.mk 7 tx t th el) := by
  intro vs w hv hE
  obtain ⟨Ax, cx, k2, m2, p, lm, o, An, Ak, At, nn, cn, nk, ck, nt, ct, Ah, ch, Ae, ce, rfl, htx, htv, hth, hel, hle⟩ := cmdV_cells hv
  clear hv
  have hb1 : Below w.heap.size w (w.alloc (.cells #[.int .i64 7, .slice Ax tx.length cx, .int .i64 k2, .int .i64 m2, .int .i64 p, .slice An nn cn, .slice Ak nk ck, .bool o, .int .i64 lm, .slice At nt ct, .slice Ah th.length ch, .slice Ae el.length ce] 34)) := bal (Below.refl _ w) _
  have hT := Bk.new w [.int .i64 7, .slice Ax tx.length cx, .int .i64 k2, .int .i64 m2, .int .i64 p, .slice An nn cn, .slice Ak nk ck, .bool o, .int .i64 lm, .slice At nt ct, .slice Ah th.length ch, .slice Ae el.length ce] 34
  generalize hres : judC leafR (inS has) (.mk 7 tx t th el) = res at *
  rw [judC, if_neg (by decide)] at hres
  unfold leafR judL at hres
  rw [if_neg (by decide), if_neg (by decide), if_pos rfl] at hres
  have Hres := Lib.hid hres
  clear hres
  have HT := Lib.hid hT
  have Hb1 := Lib.hid hb1
  have Htx := Lib.hid htx
  have HE := Lib.hid (hE.later hb1)
  clear hT hb1 htx hE
  go_enter Tryd.func58, Tryd.ntmps58
  go_upto_region 1 with fail
  generalize w.alloc (.cells #[.int .i64 7, .slice Ax tx.length cx, .int .i64 k2, .int .i64 m2, .int .i64 p, .slice An nn cn, .slice Ak nk ck, .bool o, .int .i64 lm, .slice At nt ct, .slice Ah th.length ch, .slice Ae el.length ce] 34) = w1 at *
  have x0 := HT.out.cell 0 _ rfl
  have hnd := need_calls b has rejS w1 (by decide) HE.out.1
  cases hev : inS has rejS with
  | false =>
    rw [hev, if_neg (by simp)] at hnd
    have Hnd := Lib.hid hnd
    have hr8 : res = 8 := by rw [← Hres.out, if_pos hev]
    subst hr8
    clear hnd hev htv hth hel
    go_wp2_with (go_at_call 77; refine Hnd.out.mono ?_; rintro e w2 ⟨rfl, hb2⟩; have Hb2 := Lib.hid (btr Hb1.out hb2); clear hb2)
    go_ret
    exact ⟨rfl, Hb2.out⟩
  | true =>
    rw [hev, if_pos rfl] at hnd
    have Hnd := Lib.hid hnd
    have hr := Hres.out
    rw [if_neg (by rw [hev]; simp)] at hr
    try dsimp only at hr
    clear hnd hev htv hth hel
    subst hr
    go_wp2_with (go_at_call 77; refine Hnd.out.mono ?_; rintro e w2 ⟨rfl, hb2⟩; have Hb2 := Lib.hid (btr Hb1.out hb2); clear hb2)
    go_ret
    exact ⟨rfl, Hb2.out⟩

set_option maxRecDepth 100000 in
set_option maxHeartbeats 8000000 in
theorem rcmd_8 (has : List ByteArray) (b : Nat) (tx : List ByteArray) (t : Tst) (th el : List Cmd) : CkR has b (.mk 8 tx t th el) := by
  intro vs w hv hE
  obtain ⟨Ax, cx, k2, m2, p, lm, o, An, Ak, At, nn, cn, nk, ck, nt, ct, Ah, ch, Ae, ce, rfl, htx, htv, hth, hel, hle⟩ := cmdV_cells hv
  clear hv
  have hb1 : Below w.heap.size w (w.alloc (.cells #[.int .i64 8, .slice Ax tx.length cx, .int .i64 k2, .int .i64 m2, .int .i64 p, .slice An nn cn, .slice Ak nk ck, .bool o, .int .i64 lm, .slice At nt ct, .slice Ah th.length ch, .slice Ae el.length ce] 34)) := bal (Below.refl _ w) _
  have hT := Bk.new w [.int .i64 8, .slice Ax tx.length cx, .int .i64 k2, .int .i64 m2, .int .i64 p, .slice An nn cn, .slice Ak nk ck, .bool o, .int .i64 lm, .slice At nt ct, .slice Ah th.length ch, .slice Ae el.length ce] 34
  generalize hres : judC leafR (inS has) (.mk 8 tx t th el) = res at *
  have hlt : tx.length ≤ 1000000 := by omega
  have hst := Lib.hid ((txAt_str htx).later hb1)
  rw [judC, if_neg (by decide)] at hres
  unfold leafR judL at hres
  rw [if_neg (by decide), if_neg (by decide), if_neg (by decide), if_pos (by decide)] at hres
  have Hres := Lib.hid hres
  clear hres
  have HT := Lib.hid hT
  have Hb1 := Lib.hid hb1
  have Htx := Lib.hid htx
  have HE := Lib.hid (hE.later hb1)
  clear hT hb1 htx hE
  go_enter Tryd.func58, Tryd.ntmps58
  go_upto_region 1 with fail
  generalize w.alloc (.cells #[.int .i64 8, .slice Ax tx.length cx, .int .i64 k2, .int .i64 m2, .int .i64 p, .slice An nn cn, .slice Ak nk ck, .bool o, .int .i64 lm, .slice At nt ct, .slice Ah th.length ch, .slice Ae el.length ce] 34) = w1 at *
  have x0 := HT.out.cell 0 _ rfl
  have hnd := need_calls b has flgS w1 (by decide) HE.out.1
  cases hev : inS has flgS with
  | false =>
    rw [hev, if_neg (by simp)] at hnd
    have Hnd := Lib.hid hnd
    have hr8 : res = 8 := by rw [← Hres.out, if_pos hev]
    subst hr8
    clear hnd hev htv hth hel
    go_wp2_with (go_at_call 77; refine Hnd.out.mono ?_; rintro e w2 ⟨rfl, hb2⟩; have Hb2 := Lib.hid (btr Hb1.out hb2); clear hb2)
    go_ret
    exact ⟨rfl, Hb2.out⟩
  | true =>
    rw [hev, if_pos rfl] at hnd
    have Hnd := Lib.hid hnd
    have hr := Hres.out
    rw [if_neg (by rw [hev]; simp)] at hr
    try dsimp only at hr
    clear hnd hev htv hth hel
    subst hr
    go_upto_region 24 with (go_at_call 77; refine Hnd.out.mono ?_; rintro e w2 ⟨rfl, hb2⟩; have HT2 := Lib.hid (HT.out.later hb2); have Hb2 := Lib.hid (btr Hb1.out hb2); have Hs2 := Lib.hid (hst.out.later hb2); have HE2 := Lib.hid (HE.out.later hb2); clear hb2)
    clear x0
    have x1 := HT2.out.cell 1 _ rfl
    have hfl := Lib.hid (flags_any Ax cx tx w2 (by omega) HE2.out.2.1 Hs2.out)
    go_wp2_with (go_at_call 14; refine hfl.out.mono ?_; rintro e w3 ⟨rfl, rfl⟩)
    go_ret
    exact ⟨rfl, Hb2.out⟩

set_option maxRecDepth 100000 in
set_option maxHeartbeats 8000000 in
theorem rcmd_9 (has : List ByteArray) (b : Nat) (tx : List ByteArray) (t : Tst) (th el : List Cmd) : CkR has b (.mk 9 tx t th el) := by
  intro vs w hv hE
  obtain ⟨Ax, cx, k2, m2, p, lm, o, An, Ak, At, nn, cn, nk, ck, nt, ct, Ah, ch, Ae, ce, rfl, htx, htv, hth, hel, hle⟩ := cmdV_cells hv
  clear hv
  have hb1 : Below w.heap.size w (w.alloc (.cells #[.int .i64 9, .slice Ax tx.length cx, .int .i64 k2, .int .i64 m2, .int .i64 p, .slice An nn cn, .slice Ak nk ck, .bool o, .int .i64 lm, .slice At nt ct, .slice Ah th.length ch, .slice Ae el.length ce] 34)) := bal (Below.refl _ w) _
  have hT := Bk.new w [.int .i64 9, .slice Ax tx.length cx, .int .i64 k2, .int .i64 m2, .int .i64 p, .slice An nn cn, .slice Ak nk ck, .bool o, .int .i64 lm, .slice At nt ct, .slice Ah th.length ch, .slice Ae el.length ce] 34
  generalize hres : judC leafR (inS has) (.mk 9 tx t th el) = res at *
  have hlt : tx.length ≤ 1000000 := by omega
  have hst := Lib.hid ((txAt_str htx).later hb1)
  rw [judC, if_neg (by decide)] at hres
  unfold leafR judL at hres
  rw [if_neg (by decide), if_neg (by decide), if_neg (by decide), if_pos (by decide)] at hres
  have Hres := Lib.hid hres
  clear hres
  have HT := Lib.hid hT
  have Hb1 := Lib.hid hb1
  have Htx := Lib.hid htx
  have HE := Lib.hid (hE.later hb1)
  clear hT hb1 htx hE
  go_enter Tryd.func58, Tryd.ntmps58
  go_upto_region 1 with fail
  generalize w.alloc (.cells #[.int .i64 9, .slice Ax tx.length cx, .int .i64 k2, .int .i64 m2, .int .i64 p, .slice An nn cn, .slice Ak nk ck, .bool o, .int .i64 lm, .slice At nt ct, .slice Ah th.length ch, .slice Ae el.length ce] 34) = w1 at *
  have x0 := HT.out.cell 0 _ rfl
  have hnd := need_calls b has flgS w1 (by decide) HE.out.1
  cases hev : inS has flgS with
  | false =>
    rw [hev, if_neg (by simp)] at hnd
    have Hnd := Lib.hid hnd
    have hr8 : res = 8 := by rw [← Hres.out, if_pos hev]
    subst hr8
    clear hnd hev htv hth hel
    go_wp2_with (go_at_call 77; refine Hnd.out.mono ?_; rintro e w2 ⟨rfl, hb2⟩; have Hb2 := Lib.hid (btr Hb1.out hb2); clear hb2)
    go_ret
    exact ⟨rfl, Hb2.out⟩
  | true =>
    rw [hev, if_pos rfl] at hnd
    have Hnd := Lib.hid hnd
    have hr := Hres.out
    rw [if_neg (by rw [hev]; simp)] at hr
    try dsimp only at hr
    clear hnd hev htv hth hel
    subst hr
    go_upto_region 24 with (go_at_call 77; refine Hnd.out.mono ?_; rintro e w2 ⟨rfl, hb2⟩; have HT2 := Lib.hid (HT.out.later hb2); have Hb2 := Lib.hid (btr Hb1.out hb2); have Hs2 := Lib.hid (hst.out.later hb2); have HE2 := Lib.hid (HE.out.later hb2); clear hb2)
    clear x0
    have x1 := HT2.out.cell 1 _ rfl
    have hfl := Lib.hid (flags_any Ax cx tx w2 (by omega) HE2.out.2.1 Hs2.out)
    go_wp2_with (go_at_call 14; refine hfl.out.mono ?_; rintro e w3 ⟨rfl, rfl⟩)
    go_ret
    exact ⟨rfl, Hb2.out⟩

set_option maxRecDepth 100000 in
set_option maxHeartbeats 8000000 in
theorem rcmd_6 (has : List ByteArray) (b : Nat) (tx : List ByteArray) (t : Tst) (th el : List Cmd) (hl1 : tx.length = 1) : CkR has b (.mk 6 tx t th el) := by
  intro vs w hv hE
  obtain ⟨Ax, cx, k2, m2, p, lm, o, An, Ak, At, nn, cn, nk, ck, nt, ct, Ah, ch, Ae, ce, rfl, htx, htv, hth, hel, hle⟩ := cmdV_cells hv
  clear hv
  have hb1 : Below w.heap.size w (w.alloc (.cells #[.int .i64 6, .slice Ax tx.length cx, .int .i64 k2, .int .i64 m2, .int .i64 p, .slice An nn cn, .slice Ak nk ck, .bool o, .int .i64 lm, .slice At nt ct, .slice Ah th.length ch, .slice Ae el.length ce] 34)) := bal (Below.refl _ w) _
  have hT := Bk.new w [.int .i64 6, .slice Ax tx.length cx, .int .i64 k2, .int .i64 m2, .int .i64 p, .slice An nn cn, .slice Ak nk ck, .bool o, .int .i64 lm, .slice At nt ct, .slice Ah th.length ch, .slice Ae el.length ce] 34
  generalize hres : judC leafR (inS has) (.mk 6 tx t th el) = res at *
  rw [judC, if_neg (by decide)] at hres
  unfold leafR judL at hres
  rw [if_neg (by decide), if_neg (by decide), if_neg (by decide), if_neg (by decide), if_pos rfl] at hres
  have Hres := Lib.hid hres
  clear hres
  obtain ⟨g, off, s, rfl, hs0, ht0⟩ := txAt_get (r := 0) htx (by omega)
  rw [Nat.add_zero] at ht0
  have Ht0 := Lib.hid (cell_later hb1 ht0)
  have hhd : hdS tx = s := by
    match tx, hl1, hs0 with
    | [a], _, h => simpa [hdS] using h
  have Hhd := Lib.hid hhd
  have hl0 : 0 < tx.length := by omega
  clear hs0 ht0 hhd hl1
  have HT := Lib.hid hT
  have Hb1 := Lib.hid hb1
  have Htx := Lib.hid htx
  have HE := Lib.hid (hE.later hb1)
  clear hT hb1 htx hE
  go_enter Tryd.func58, Tryd.ntmps58
  go_upto_region 1 with fail
  generalize w.alloc (.cells #[.int .i64 6, .slice (some ⟨g, off, none⟩) tx.length cx, .int .i64 k2, .int .i64 m2, .int .i64 p, .slice An nn cn, .slice Ak nk ck, .bool o, .int .i64 lm, .slice At nt ct, .slice Ah th.length ch, .slice Ae el.length ce] 34) = w1 at *
  have x0 := HT.out.cell 0 _ rfl
  obtain ⟨m0, hm0⟩ := HE.out.2.2
  have hls := Lib.hid (adr_list s m0 w1 hm0)
  have hr := Hres.out
  (try dsimp only at hr)
  rw [Hhd.out] at hr
  clear hm0 htv hth hel
  have t0 := Ht0.out
  have x1 := HT.out.cell 1 _ rfl
  go_upto_region 28 with (go_at_call 79; refine hls.out.mono ?_; rintro e w2 ⟨Al, nl, cl, er, rfl, hb2, hor⟩; have Hb2 := Lib.hid (btr Hb1.out hb2); have Hor := Lib.hid hor; clear hb2 hor)
  clear x0 x1 t0
  rcases Hor.out with ⟨h1, h2⟩ | ⟨h1, h2, h3⟩ | ⟨h1, h2, h3⟩
  · rw [h2] at hr
    have h1b : (er != 0) = true := by simpa using h1
    subst hr
    clear h1 h2 Hor
    go_wp2_with fail
    go_ret
    exact ⟨rfl, Hb2.out⟩
  · rw [h3] at hr
    subst h1
    have h2b : ((nl : Int) != 1) = true := by simpa using (show ¬ (nl : Int) = 1 by omega)
    subst hr
    clear h2 h3 Hor
    go_wp2_with fail
    go_ret
    exact ⟨rfl, Hb2.out⟩
  · rw [h3] at hr
    subst h1 h2
    subst hr
    clear h3 Hor
    go_wp2_with fail
    go_ret
    exact ⟨rfl, Hb2.out⟩

set_option maxRecDepth 100000 in
set_option maxHeartbeats 8000000 in
theorem rcmd_2 (has : List ByteArray) (b : Nat) (tx : List ByteArray) (t : Tst) (th el : List Cmd) (iht : CkJ has b t) (ihh : CkRs has b th) (ihe : CkRs has b el) : CkR has b (.mk 2 tx t th el) := by
  intro vs w hv hE
  obtain ⟨Ax, cx, k2, m2, p, lm, o, An, Ak, At, nn, cn, nk, ck, nt, ct, Ah, ch, Ae, ce, rfl, htx, htv, hth, hel, hle⟩ := cmdV_cells hv
  clear hv
  have hb1 : Below w.heap.size w (w.alloc (.cells #[.int .i64 2, .slice Ax tx.length cx, .int .i64 k2, .int .i64 m2, .int .i64 p, .slice An nn cn, .slice Ak nk ck, .bool o, .int .i64 lm, .slice At nt ct, .slice Ah th.length ch, .slice Ae el.length ce] 34)) := bal (Below.refl _ w) _
  have hT := Bk.new w [.int .i64 2, .slice Ax tx.length cx, .int .i64 k2, .int .i64 m2, .int .i64 p, .slice An nn cn, .slice Ak nk ck, .bool o, .int .i64 lm, .slice At nt ct, .slice Ah th.length ch, .slice Ae el.length ce] 34
  generalize hres : judC leafR (inS has) (.mk 2 tx t th el) = res at *
  rw [judC, if_pos rfl] at hres
  have Hres := Lib.hid hres
  have hit := Lib.hid (fun W (hW : Below w.heap.size w W) (hH : HasAt W b has) => iht _ W (testV_later hW t _ htv) hH)
  have hih := Lib.hid (fun W (hW : Below w.heap.size w W) (hH : EnvR has b W) => ihh Ah ch W (cmdsAt_later hW th _ hth) hH (by omega))
  have hie := Lib.hid (fun W (hW : Below w.heap.size w W) (hH : EnvR has b W) => ihe Ae ce W (cmdsAt_later hW el _ hel) hH (by omega))
  clear hres htv hth hel iht ihh ihe
  have HT := Lib.hid hT
  have Hb1 := Lib.hid hb1
  have Htx := Lib.hid htx
  have HE := Lib.hid (hE.later hb1)
  clear hT hb1 htx hE
  go_enter Tryd.func58, Tryd.ntmps58
  go_upto_region 1 with fail
  generalize w.alloc (.cells #[.int .i64 2, .slice Ax tx.length cx, .int .i64 k2, .int .i64 m2, .int .i64 p, .slice An nn cn, .slice Ak nk ck, .bool o, .int .i64 lm, .slice At nt ct, .slice Ah th.length ch, .slice Ae el.length ce] 34) = w1 at *
  have x0 := HT.out.cell 0 _ rfl
  generalize hq1 : judT (inS has) t = r1 at *
  generalize hq2 : judCs leafR (inS has) th = r2 at *
  generalize hq3 : judCs leafR (inS has) el = r3 at *
  clear hq1 hq2 hq3
  have x2 := HT.out.cell 2 _ rfl
  have x3 := HT.out.cell 3 _ rfl
  have x4 := HT.out.cell 4 _ rfl
  have x5 := HT.out.cell 5 _ rfl
  have x6 := HT.out.cell 6 _ rfl
  have x7 := HT.out.cell 7 _ rfl
  have x8 := HT.out.cell 8 _ rfl
  have x9 := HT.out.cell 9 _ rfl
  have hc1 := Lib.hid (hit.out w1 Hb1.out HE.out.1)
  go_upto_region 6 with (go_at_call 76; refine hc1.out.mono ?_; rintro e w2 ⟨rfl, hb2⟩; have HT2 := Lib.hid (HT.out.later hb2); have Hb2 := Lib.hid (btr Hb1.out hb2); have HE2 := Lib.hid (HE.out.later hb2); clear hb2)
  clear x0 x2 x3 x4 x5 x6 x7 x8 x9 hc1
  have hr := Hres.out
  by_cases h1 : r1 = 0
  · subst h1
    rw [if_neg (by simp)] at hr
    have x10 := HT2.out.cell 10 _ rfl
    have hc2 := Lib.hid (hih.out w2 Hb2.out HE2.out)
    have Hr := Lib.hid hr
    clear hr Hres
    go_upto_region 9 with (go_at_call 38; refine hc2.out.mono ?_; rintro e w3 ⟨rfl, hb3⟩; have HT3 := Lib.hid (HT2.out.later hb3); have Hb3 := Lib.hid (btr Hb2.out hb3); have HE3 := Lib.hid (HE2.out.later hb3); clear hb3)
    clear x10 hc2
    have hr := Hr.out
    by_cases h2 : r2 = 0
    · subst h2
      rw [if_neg (by simp)] at hr
      have x11 := HT3.out.cell 11 _ rfl
      have hc3 := Lib.hid (hie.out w3 Hb3.out HE3.out)
      subst hr
      go_wp2_with (go_at_call 38; refine hc3.out.mono ?_; rintro e w4 ⟨rfl, hb4⟩; have Hb4 := Lib.hid (btr Hb3.out hb4); clear hb4)
      go_ret
      exact ⟨rfl, Hb4.out⟩
    · have h2b : (r2 != 0) = true := by simpa using h2
      rw [if_pos h2] at hr
      subst hr
      clear h2
      go_wp2_with fail
      go_ret
      exact ⟨rfl, Hb3.out⟩
  · have h1b : (r1 != 0) = true := by simpa using h1
    rw [if_pos h1] at hr
    subst hr
    clear h1 Hres
    go_wp2_with fail
    go_ret
    exact ⟨rfl, Hb2.out⟩
set_option maxRecDepth 100000 in
set_option maxHeartbeats 8000000 in
theorem rall_of (has : List ByteArray) (b0 : Nat) (cs : List Cmd) (ih : ∀ c ∈ cs, CkR has b0 c) : CkRs has b0 cs := by
  intro A cp w hta hE hln
  generalize hres : judCs leafR (inS has) cs = res at *
  have Hres := Lib.hid hres
  have Hih := Lib.hid ih
  have Hta := Lib.hid hta
  have HE := Lib.hid hE
  clear hres ih hta hE
  go_enter Tryd.func38, Tryd.ntmps38
  go_wp2_with fail
  go_loopw [10] (fun i wr => ∃ j : Nat, j ≤ cs.length ∧ i = .int .i64 j ∧ Hid (judCs leafR (inS has) (cs.drop j) = res) ∧ Hid (Below w.heap.size w wr)) (fun i _ => cs.length - (intOf i).toNat)
  case atStart => exact ⟨0, Nat.zero_le _, rfl, Lib.hid (by rw [List.drop_zero]; exact Hres.out), Lib.hid (Below.refl _ _)⟩
  case round =>
    obtain ⟨j, hj, rfl, Hj, Hb4⟩ := hrel
    by_cases hlt : j < cs.length
    · have hj0 : (0 : Int) ≤ (j : Int) := by omega
      have hjn : (j : Int) < (cs.length : Int) := by omega
      obtain ⟨b, off, s, k, Ax, nx, cx, k2, m, p, lm, o, An, Ak, At, nn, cn, nk, ck, nt, ct, Ah, nh, ch, Ae, ne, ce, rfl, hmem, hgt, hdr, hki, huv, c0, c1, c2, c3, c4, c5, c6, c7, c8, c9, c10, c11⟩ := cmdsAt_round Hb4.out Hta.out hlt
      have hju := Hj.out
      rw [hdr] at hju
      have hN := Bk.new wr [.int .i64 k, .slice Ax nx cx, .int .i64 k2, .int .i64 m, .int .i64 p, .slice An nn cn, .slice Ak nk ck, .bool o, .int .i64 lm, .slice At nt ct, .slice Ah nh ch, .slice Ae ne ce] 34
      have hbn : Below wr.heap.size wr (wr.alloc (.cells #[.int .i64 k, .slice Ax nx cx, .int .i64 k2, .int .i64 m, .int .i64 p, .slice An nn cn, .slice Ak nk ck, .bool o, .int .i64 lm, .slice At nt ct, .slice Ah nh ch, .slice Ae ne ce] 34)) := bal (Below.refl _ _) _
      have hih := fun W (hW : Below w.heap.size w W) => Hih.out s hmem [.int .i64 k, .slice Ax nx cx, .int .i64 k2, .int .i64 m, .int .i64 p, .slice An nn cn, .slice Ak nk ck, .bool o, .int .i64 lm, .slice At nt ct, .slice Ah nh ch, .slice Ae ne ce] W (cmdV_later hW s _ huv) (HE.out.later hW)
      have Hi := Lib.hid hih
      have Hju := Lib.hid hju
      have HN := Lib.hid hN
      have Hbn := Lib.hid (btr Hb4.out hbn)
      clear hih hju hN hbn hmem hgt hdr huv hki
      generalize hq : judC leafR (inS has) s = q at *
      have Hq := Lib.hid hq
      clear hq
      go_upto_region 4 with fail
      generalize wr.alloc (.cells #[.int .i64 k, .slice Ax nx cx, .int .i64 k2, .int .i64 m, .int .i64 p, .slice An nn cn, .slice Ak nk ck, .bool o, .int .i64 lm, .slice At nt ct, .slice Ah nh ch, .slice Ae ne ce] 34) = w5 at *
      clear c0 c1 c2 c3 c4 c5 c6 c7 c8 c9 c10 c11
      have c0 := HN.out.cell 0 _ rfl
      have c1 := HN.out.cell 1 _ rfl
      have c2 := HN.out.cell 2 _ rfl
      have c3 := HN.out.cell 3 _ rfl
      have c4 := HN.out.cell 4 _ rfl
      have c5 := HN.out.cell 5 _ rfl
      have c6 := HN.out.cell 6 _ rfl
      have c7 := HN.out.cell 7 _ rfl
      have c8 := HN.out.cell 8 _ rfl
      have c9 := HN.out.cell 9 _ rfl
      have c10 := HN.out.cell 10 _ rfl
      have c11 := HN.out.cell 11 _ rfl
      have hi5 := Hi.out w5 Hbn.out
      have Hi5 := Lib.hid hi5
      clear hi5 Hi
      go_wp2_with fail
      refine Hi5.out.mono ?_
      rintro e w6 ⟨rfl, hb6⟩
      have Hb6 := Lib.hid (btr Hbn.out hb6)
      clear hb6 c0 c1 c2 c3 c4 c5 c6 c7 c8 c9 c10 c11 HN Hbn Hi5
      have hju := Hju.out
      rw [judCs, Hq.out] at hju
      by_cases hq0 : q = 0
      · subst hq0
        rw [if_neg (by simp)] at hju
        have Hju2 := Lib.hid hju
        clear hju
        go_wp2_with fail
        go_roundw
        case rel => exact ⟨j + 1, by omega, by go_num, Hju2, Hb6⟩
        case measure => simp [intOf]; omega
      · rw [if_pos hq0] at hju
        have hqb : (q != 0) = true := by simpa using hq0
        subst hju
        clear hq0
        go_wp2_with fail
        go_ret
        exact ⟨rfl, Hb6.out⟩
    · obtain rfl : j = cs.length := by omega
      have hju := Hj.out
      rw [List.drop_length] at hju
      have hr0 : res = 0 := by rw [← hju, judCs]
      subst hr0
      go_wp2_with fail
      go_ret
      exact ⟨rfl, Hb4.out⟩
theorem rcmd_calls (has : List ByteArray) (b : Nat) : ∀ (N : Nat) (c : Cmd), SizeOf.sizeOf c ≤ N → okC c → CkR has b c
  | 0, c, hN, _ => by cases c; simp at hN
  | N + 1, c, hN, hok => by
    obtain ⟨k, tx, t, th, el⟩ := c
    unfold okC at hok
    rcases hok with ⟨rfl, rfl, h1, h2, h3⟩ | ⟨h1, h2, h3, h4, rfl, rfl, rfl⟩
    · have hth : ∀ c ∈ th, CkR has b c := fun c hc => rcmd_calls has b N c (by
        have h1 := List.sizeOf_lt_of_mem hc
        simp only [Cmd.mk.sizeOf_spec] at hN
        omega) (okCs_mem th c h2 hc)
      have hel : ∀ c ∈ el, CkR has b c := fun c hc => rcmd_calls has b N c (by
        have h1 := List.sizeOf_lt_of_mem hc
        simp only [Cmd.mk.sizeOf_spec] at hN
        omega) (okCs_mem el c h3 hc)
      exact rcmd_2 has b [] t th el (rtest_calls has b _ t (Nat.le_refl _)) (rall_of has b th hth) (rall_of has b el hel)
    · have hl : 5 ≤ k ∧ k ≤ 7 → tx.length = 1 := fun hk => by
        unfold formC at h4
        rw [if_neg (by omega), if_pos hk] at h4
        simpa using h4
      rcases (show k = 1 ∨ k = 3 ∨ k = 4 ∨ k = 5 ∨ k = 6 ∨ k = 7 ∨ k = 8 ∨ k = 9 ∨ k = 10 by omega) with rfl | rfl | rfl | rfl | rfl | rfl | rfl | rfl | rfl
      · exact rcmd_1 has b tx _ _ _
      · exact rcmd_3 has b tx _ _ _
      · exact rcmd_4 has b tx _ _ _
      · exact rcmd_5 has b tx _ _ _ (hl (by decide))
      · exact rcmd_6 has b tx _ _ _ (hl (by decide))
      · exact rcmd_7 has b tx _ _ _
      · exact rcmd_8 has b tx _ _ _
      · exact rcmd_9 has b tx _ _ _
      · exact rcmd_10 has b tx _ _ _
theorem rall_calls (has : List ByteArray) (b : Nat) (cs : List Cmd) (hok : okCs cs) : CkRs has b cs := rall_of has b cs fun c hc => rcmd_calls has b _ c (Nat.le_refl _) (okCs_mem cs c hok hc)
end Go.Proofs.YtgmnoemkdigafaaDoor
namespace Go.Proofs.YtgmnoemkdigafaaDoor
open Go.RowKit
set_option linter.unusedVariables false

set_option maxRecDepth 100000 in
set_option maxHeartbeats 8000000 in
theorem checkTest_A (k m p : Int) (ns ks : List ByteArray) (o : Bool) (lm : Int) (ts : List Tst) (hk : k = 1 ∨ k = 2) (hok : okT (.mk k m p ns ks o lm ts)) (d : Int) (vs : List Value) (w : World) (hd0 : 0 ≤ d) (hd7 : d ≤ 7) (hv : TestV w (.mk k m p ns ks o lm ts) vs) :
    Calls Tryd.prog 63 #[.agg vs.toArray, .int .i64 d] w fun e w' => e = .returned (.int .i64 (chkT (.mk k m p ns ks o lm ts) d)) ∧ Below w.heap.size w w' := by
  have hr := chkT_ok hok d
  rw [hr]
  generalize hres : (if 6 < d then (1 : Int) else chkTs ts (d + 1)) = res at *
  have Hres := Lib.hid hres
  clear hr hres
  unfold okT at hok
  obtain ⟨hk1, hk10, hf, hts⟩ := hok
  have hff := form_facts hf
  unfold TestV at hv
  obtain ⟨An, cn, Ak, ck, At, ct, rfl, hn, hks, hta, hle⟩ := hv
  have hb1 : Below w.heap.size w (w.alloc (.cells #[.int .i64 k, .int .i64 m, .int .i64 p, .slice An ns.length cn, .slice Ak ks.length ck, .bool o, .int .i64 lm, .slice At ts.length ct] 31)) := bal (Below.refl _ w) _
  have hT := Bk.new w [.int .i64 k, .int .i64 m, .int .i64 p, .slice An ns.length cn, .slice Ak ks.length ck, .bool o, .int .i64 lm, .slice At ts.length ct] 31
  have hts0 : ts = [] := List.length_eq_zero_iff.1 (hff.2.2.2.2.2.2.2.2.2.2 (by omega))
  have HT := Lib.hid hT
  have Hb1 := Lib.hid hb1
  have Hff := Lib.hid hff
  have hln : ns.length ≤ 1000000 ∧ ks.length ≤ 1000000 ∧ ts.length ≤ 1000000 := ⟨hle.2.2.2.1, hle.2.2.2.2.1, hle.2.2.2.2.2⟩
  clear hta hT hb1 hff hf hn hks hle hts
  have Hts0 := Lib.hid hts0
  clear hts0
  have q1 : ¬ k < 1 := by omega
  have q10 : ¬ 10 < k := by omega
  go_enter Tryd.func63, Tryd.ntmps63
  go_upto_region 1 with fail
  generalize w.alloc (.cells #[.int .i64 k, .int .i64 m, .int .i64 p, .slice An ns.length cn, .slice Ak ks.length ck, .bool o, .int .i64 lm, .slice At ts.length ct] 31) = w1 at *
  have x0 := HT.out.cell 0 _ rfl
  by_cases h6 : 6 < d
  · have hr1 : res = 1 := by rw [← Hres.out, if_pos h6]
    subst hr1
    go_wp2_with fail
    go_ret
    exact ⟨rfl, Hb1.out⟩
  · go_upto_region 5 with fail
    have hX := Bk.new w1 [.int .i64 k, .int .i64 0, .int .i64 0, .slice none 0 0, .slice none 0 0, .bool false, .int .i64 0, .slice none 0 0] 31
    have hb2 : Below w1.heap.size w1 (w1.alloc (.cells #[.int .i64 k, .int .i64 0, .int .i64 0, .slice none 0 0, .slice none 0 0, .bool false, .int .i64 0, .slice none 0 0] 31)) := bal (Below.refl _ _) _
    have hlT := HT.out.lt
    have HX := Lib.hid hX
    have HT2 := Lib.hid (HT.out.later hb2)
    have Hb2 := Lib.hid (btr Hb1.out hb2)
    have hlw := Hb1.out.size
    clear hX hb2
    go_upto_region 6 with fail
    generalize w1.alloc (.cells #[.int .i64 k, .int .i64 0, .int .i64 0, .slice none 0 0, .slice none 0 0, .bool false, .int .i64 0, .slice none 0 0] 31) = w2 at *
    clear x0
    have x0 := HT2.out.cell 0 _ rfl
    have x1 := HT2.out.cell 1 _ rfl
    have x2 := HT2.out.cell 2 _ rfl
    have x3 := HT2.out.cell 3 _ rfl
    have x4 := HT2.out.cell 4 _ rfl
    have x5 := HT2.out.cell 5 _ rfl
    have x6 := HT2.out.cell 6 _ rfl
    have x7 := HT2.out.cell 7 _ rfl
    go_upto_block 0 with fail
    go_cut [6] from 25 to 118 (fun ok wx => ok = .bool true ∧ ∃ A1 c1 A2 c2, Hid (Bk wx w1.heap.size [.int .i64 k, .int .i64 m, .int .i64 p, .slice A1 ns.length c1, .slice A2 ks.length c2, .bool o, .int .i64 lm, .slice none 0 0] 31) ∧ Hid (Bk wx w.heap.size [.int .i64 k, .int .i64 m, .int .i64 p, .slice An ns.length cn, .slice Ak ks.length ck, .bool o, .int .i64 lm, .slice At ts.length ct] 31) ∧ Hid (Below w.heap.size w wx))
    case first =>
      obtain ⟨f3, f45, f68, f78, f9, f10, g9, g8, g7, g10, g5⟩ := Hff.out
      rcases hk with rfl | rfl
      · -- kind 1
        have en1 := g9 (by decide)
        obtain ⟨en2, em⟩ := g8 (by decide)
        have ep := g7 (by decide)
        obtain ⟨eo, el⟩ := g10 (by decide)
        have Hem := Lib.hid em
        have Hep := Lib.hid ep
        have Hen1 := Lib.hid en1
        have Hen2 := Lib.hid en2
        have Heo := Lib.hid eo
        have Hel := Lib.hid el
        clear em ep en1 en2 eo el
        clear f3 f45 f68 f78 f9 f10 g9 g8 g7 g10 g5
        go_wp2_with fail
        go_meet
        refine ⟨by first | rfl | (simp; omega), none, 0, none, 0, Lib.hid ?_, Lib.hid (HT2.out), Lib.hid (Hb2.out)⟩
        rw [Hem.out, Hep.out, Hen1.out, Hen2.out, Heo.out, Hel.out]
        exact HX.out
      · -- kind 2
        have en1 := g9 (by decide)
        obtain ⟨en2, em⟩ := g8 (by decide)
        have ep := g7 (by decide)
        obtain ⟨eo, el⟩ := g10 (by decide)
        have Hem := Lib.hid em
        have Hep := Lib.hid ep
        have Hen1 := Lib.hid en1
        have Hen2 := Lib.hid en2
        have Heo := Lib.hid eo
        have Hel := Lib.hid el
        clear em ep en1 en2 eo el
        clear f3 f45 f68 f78 f9 f10 g9 g8 g7 g10 g5
        go_wp2_with fail
        go_meet
        refine ⟨by first | rfl | (simp; omega), none, 0, none, 0, Lib.hid ?_, Lib.hid (HT2.out), Lib.hid (Hb2.out)⟩
        rw [Hem.out, Hep.out, Hen1.out, Hen2.out, Heo.out, Hel.out]
        exact HX.out
    case rest =>
      obtain ⟨rfl, A1, c1, A2, c2, HX3, HT3, Hb3⟩ := hcut
      clear x0 x1 x2 x3 x4 x5 x6 x7 HX HT2 Hb2 HT Hb1
      have x0 := HT3.out.cell 0 _ rfl
      have x1 := HT3.out.cell 1 _ rfl
      have x2 := HT3.out.cell 2 _ rfl
      have x3 := HT3.out.cell 3 _ rfl
      have x4 := HT3.out.cell 4 _ rfl
      have x5 := HT3.out.cell 5 _ rfl
      have x6 := HT3.out.cell 6 _ rfl
      have x7 := HT3.out.cell 7 _ rfl
      have z1 := HX3.out.cell 1 _ rfl
      have z2 := HX3.out.cell 2 _ rfl
      have z3 := HX3.out.cell 3 _ rfl
      have z4 := HX3.out.cell 4 _ rfl
      have z5 := HX3.out.cell 5 _ rfl
      have z6 := HX3.out.cell 6 _ rfl
      have hr2 : chkTs ts (d + 1) = res := by rw [← Hres.out, if_neg h6]
      have Hr2 := Lib.hid hr2
      have hd6 : d ≤ 6 := by omega
      clear hr2 h6
      go_upto_region 28 with fail
      clear z1 z2 z3 z4 z5 z6 HX3
      have h3 : k < 3 := by omega
      obtain rfl := Hts0.out
      have hr0 : res = 0 := by rw [← Hr2.out]; unfold chkTs; rfl
      subst hr0
      clear x1 x2 x3 x4 x5 x6
      clear hk
      go_wp2_with fail
      go_loopw [183] (fun i wr => i = .int .i64 0 ∧ wr = wc) (fun _ _ => 0)
      case atStart => exact ⟨rfl, rfl⟩
      case round =>
        obtain ⟨rfl, rfl⟩ := hrel
        go_wp2_with fail
        go_ret
        exact ⟨rfl, Hb3.out⟩
end Go.Proofs.YtgmnoemkdigafaaDoor
