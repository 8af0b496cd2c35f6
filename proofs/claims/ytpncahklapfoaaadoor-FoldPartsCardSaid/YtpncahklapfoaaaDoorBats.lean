/- Lists of batches in memory. -/
import Derived.Test.YtpncahklapfoaaaDoorBkPlain
import Derived.Test.YtpncahklapfoaaaDoorBatLaw
import Derived.Test.YtpncahklapfoaaaDoorStOps
namespace Go.Proofs.YtpncahklapfoaaaDoor
open Go.RowKit
set_option linter.unusedVariables false

theorem btr {w W W' : World} (h : Below w.heap.size w W) (h2 : Below W.heap.size W W') : Below w.heap.size w W' := h.trans (h2.mono h.size)
theorem bal {w W : World} (h : Below w.heap.size w W) (o : Obj) : Below w.heap.size w (W.alloc o) := h.alloc h.size o
theorem bdr (w : World) : Below w.heap.size w w.drew := ⟨rfl, rfl, rfl, Nat.le_refl _, fun _ _ => rfl⟩
theorem k2 {a b B : Prop} (k : a ∧ b ∧ B) : B := k.2.2
theorem k4 {a b c d B : Prop} (k : a ∧ b ∧ c ∧ d ∧ B) : B := k.2.2.2.2
theorem k6 {a b c d e f B : Prop} (k : a ∧ b ∧ c ∧ d ∧ e ∧ f ∧ B) : B := k.2.2.2.2.2.2
theorem info_bat : (Tryd.prog.info? 25).map (fun i => (i.zero, i.size, i.bytes)) = some (some (.agg #[.int .i64 0, .slice none 0 0]), 2, 32) := by kernel_rfl
def batCells (p : BatS × Value) : List Value := [.int .i64 p.1.user, p.2]
/-- A list of batches that can be read. -/
def BatsAt (w : World) (A : Option Addr) (l : List BatS) : Prop :=
  ∀ (j : Nat) b, l[j]? = some b → ∃ g off Ae ce, A = some ⟨g, off, none⟩ ∧ w.cell? ⟨g, off + j * 2, none⟩ = some (.int .i64 b.user) ∧ w.cell? ⟨g, off + j * 2 + 1, none⟩ = some (.slice Ae b.es.length ce) ∧ EsAt w Ae b.es
theorem BatsAt.later {w w' : World} {A : Option Addr} {l : List BatS} (hb : Below w.heap.size w w') (h : BatsAt w A l) : BatsAt w' A l := fun j b hj => by
  obtain ⟨g, off, Ae, ce, e, c0, c1, he⟩ := h j b hj
  exact ⟨g, off, Ae, ce, e, cell_later hb c0, cell_later hb c1, he.later hb⟩
theorem BatsAt.take {w : World} {A : Option Addr} {l : List BatS} (h : BatsAt w A l) (k : Nat) : BatsAt w A (l.take k) := fun j b hj => by
  rw [List.getElem?_take] at hj
  split at hj
  · exact h j b hj
  · cases hj
/-- A list of batches of one's own. -/
def RowQ (w : World) (B : Nat) (v : Value) (q : List (BatS × Value)) : Prop :=
  w.ownsRow B 25 2 v q.length (q.flatMap batCells) ∧ ∀ p ∈ q, w.ownsRow B 63 6 p.2 p.1.es.length (entsCells p.1.es)
def RowB (w : World) (B : Nat) (v : Value) (l : List BatS) : Prop := ∃ q : List (BatS × Value), q.map Prod.fst = l ∧ RowQ w B v q
theorem RowQ.later {w w' : World} {B : Nat} {v : Value} {q : List (BatS × Value)} (hb : Below w.heap.size w w') (h : RowQ w B v q) : RowQ w' B v q := ⟨row_later hb h.1, fun p hp => row_later hb (h.2 p hp)⟩
theorem RowB.later {w w' : World} {B : Nat} {v : Value} {l : List BatS} (hb : Below w.heap.size w w') (h : RowB w B v l) : RowB w' B v l := by
  obtain ⟨q, e, hq⟩ := h
  exact ⟨q, e, hq.later hb⟩
theorem RowQ.base {w : World} {B B2 : Nat} {v : Value} {q : List (BatS × Value)} (hB : B2 ≤ B) (h : RowQ w B v q) : RowQ w B2 v q := ⟨row_base hB h.1, fun p hp => row_base hB (h.2 p hp)⟩
theorem RowB.base {w : World} {B B2 : Nat} {v : Value} {l : List BatS} (hB : B2 ≤ B) (h : RowB w B v l) : RowB w B2 v l := by
  obtain ⟨q, e, hq⟩ := h
  exact ⟨q, e, hq.base hB⟩
theorem RowQ.nil (w : World) (B : Nat) : RowQ w B (.slice none 0 0) [] := ⟨World.ownsRow_nil _ _ _ _, fun p hp => by simp at hp⟩
theorem own_ne {w : World} {B B2 e1 e2 s1 s2 n m : Nat} {u v : Value} {xs ys : List Value} (h1 : w.ownsRow B e1 s1 u n xs) (h2 : w.ownsRow B2 e2 s2 v m ys) (hne : e1 ≠ e2) : ∀ k, u.ownBlock = some k → some k ≠ v.ownBlock := by
  intro k hk e
  rcases h1.2 with ⟨rfl, _⟩ | ⟨g, cap, cur, rfl, _, hg, _⟩
  · cases hk
  · rcases h2.2 with ⟨rfl, _⟩ | ⟨g2, cap2, cur2, rfl, _, hg2, _⟩
    · cases e
    · obtain rfl : g = k := Option.some.inj hk
      obtain rfl : g = g2 := Option.some.inj e
      rw [hg] at hg2
      have := Option.some.inj hg2
      simp only [Obj.cells.injEq] at this
      exact hne this.2.1
theorem row_grown {w w' : World} {B e s n : Nat} {u : Value} {xs : List Value} {r : Option Nat} (h : w.ownsRow B e s u n xs) (hg : w.grownBy w' r) (hne : ∀ k, u.ownBlock = some k → some k ≠ r) : w'.ownsRow B e s u n xs := by
  refine ⟨h.1, ?_⟩
  rcases h.2 with hn | ⟨g, cap, cur, rfl, h1, h2, rest⟩
  · exact .inl hn
  · exact .inr ⟨g, cap, cur, rfl, h1, (hg.block g (Array.getElem?_eq_some_iff.1 h2).1 (hne g rfl)).trans h2, rest⟩
/-- A row is not touched by what is written into a block of another type. -/
theorem own_set {w : World} {B e s n q : Nat} {v : Value} {xs cs : List Value} {t : TypeId} (h : w.ownsRow B e s v n xs) (hb : Bk w q cs t) (hne : e ≠ t) (j : Nat) (u : Value) : (w.setCell ⟨q, j, none⟩ u).ownsRow B e s v n xs := by
  refine row_grown h (setCell_grown w q j u) fun k hk e1 => ?_
  obtain rfl := Option.some.inj e1
  rcases h.2 with ⟨rfl, _⟩ | ⟨g, cap, cur, rfl, _, hg, _⟩
  · cases hk
  · obtain rfl : g = k := Option.some.inj hk
    unfold Bk at hb
    rw [hg] at hb
    have := Option.some.inj hb
    simp only [Obj.cells.injEq] at this
    exact hne this.2.1
theorem RowQ.set {w : World} {B g : Nat} {v : Value} {q : List (BatS × Value)} {cs : List Value} {t : TypeId} (h : RowQ w B v q) (hb : Bk w g cs t) (h1 : 25 ≠ t) (h2 : 63 ≠ t) (j : Nat) (u : Value) : RowQ (w.setCell ⟨g, j, none⟩ u) B v q :=
  ⟨own_set h.1 hb h1 j u, fun p hp => own_set (h.2 p hp) hb h2 j u⟩
theorem RowQ.snoc {w w' : World} {B : Nat} {v v' u : Value} {q : List (BatS × Value)} {b : BatS} (h : RowQ w B v q) (hu : w.ownsRow B 63 6 u b.es.length (entsCells b.es)) (hg : w.grownBy w' v.ownBlock)
    (hrow : w'.ownsRow B 25 2 v' (q.length + 1) (q.flatMap batCells ++ [.int .i64 b.user, u])) : RowQ w' B v' (q ++ [(b, u)]) := by
  refine ⟨?_, fun p hp => ?_⟩
  · rw [List.length_append, List.flatMap_append]
    simpa [batCells] using hrow
  · rcases List.mem_append.1 hp with hp | hp
    · exact row_grown (h.2 p hp) hg (own_ne (h.2 p hp) h.1 (by decide))
    · simp only [List.mem_singleton] at hp
      subst hp
      exact row_grown hu hg (own_ne hu h.1 (by decide))
theorem RowQ.len {w : World} {B : Nat} {v : Value} {q : List (BatS × Value)} (h : RowQ w B v q) : ∃ A c, v = .slice A q.length c := own_sliceE h.1
theorem RowB.len {w : World} {B : Nat} {v : Value} {l : List BatS} (h : RowB w B v l) : ∃ A c, v = .slice A l.length c := by
  obtain ⟨q, rfl, hq⟩ := h
  rw [List.length_map]
  exact hq.len
theorem RowQ.bats {w : World} {B n c : Nat} {A : Option Addr} {q : List (BatS × Value)} (h : RowQ w B (.slice A n c) q) : BatsAt w A (q.map Prod.fst) := by
  intro j b hj
  rw [List.getElem?_map] at hj
  obtain ⟨p, hp, rfl⟩ := Option.map_eq_some_iff.1 hj
  have hjl : j < q.length := (List.getElem?_eq_some_iff.1 hp).1
  obtain ⟨g, c2, e, _, _⟩ := h.1.form (by omega)
  obtain ⟨rfl, rfl, rfl⟩ := Value.slice.inj e
  have hc : ∀ i, i < 2 → w.cell? ⟨g, 0 + j * 2 + i, none⟩ = (batCells p)[i]? := fun i hi => by
    rw [Nat.zero_add]
    exact (h.1.cellAt (j * 2 + i) (by omega)).trans (flat_get batCells 2 (fun _ => rfl) _ j p hp i hi)
  have hr := h.2 p (List.mem_of_getElem? hp)
  obtain ⟨Ae, ce, e2⟩ := own_sliceE hr
  have h1 := hc 1 (by decide)
  simp only [batCells] at h1
  rw [e2] at hr h1
  exact ⟨g, 0, Ae, ce, rfl, hc 0 (by decide), h1, ownsRow_ents hr rfl⟩
theorem RowB.bats {w : World} {B n c : Nat} {A : Option Addr} {l : List BatS} (h : RowB w B (.slice A n c) l) : BatsAt w A l ∧ n = l.length ∧ l.length ≤ c := by
  obtain ⟨q, rfl, hq⟩ := h
  obtain ⟨A2, c2, e⟩ := hq.len
  obtain ⟨rfl, rfl, rfl⟩ := Value.slice.inj e
  rw [List.length_map]
  exact ⟨hq.bats, rfl, own_cap hq.1⟩
theorem BS.mono {W : World} {B B2 cap : Nat} {A : Option Addr} {l : List UInt8} (h : BS W B A cap l) (hB : B ≤ B2) : BS W B2 A cap l := by
  refine ⟨h.1, ?_⟩
  rcases h.2 with h | ⟨b, off, e, hb, hc⟩
  · exact .inl h
  · exact .inr ⟨b, off, e, by omega, hc⟩
theorem BS.later {W W' : World} {cap : Nat} {A : Option Addr} {l : List UInt8} (hb : Below W.heap.size W W') (h : BS W W.heap.size A cap l) : BS W' W'.heap.size A cap l := (h.below hb (Nat.le_refl _)).mono hb.size
/-- The first of so many bytes, with no room behind. -/
theorem BS.cut {W : World} {B cap : Nat} {A : Option Addr} {l : List UInt8} (h : BS W B A cap l) (k : Nat) (hk : k ≤ l.length) (c2 : Nat) (hc : k ≤ c2) (hc2 : A = none → c2 = 0) : BS W B A c2 (l.take k) := by
  refine ⟨by rw [List.length_take]; omega, ?_⟩
  rcases h.2 with ⟨h1, h2⟩ | ⟨b, off, e, hb, hc⟩
  · exact .inl ⟨h1, hc2 h1⟩
  · refine .inr ⟨b, off, e, hb, fun i hi => ?_⟩
    rw [List.getElem_take]
    exact hc i (by rw [List.length_take] at hi; omega)
/-- The bytes behind so many, as the walk spells their place. -/
theorem bs_drop {W : World} {B c : Nat} {A : Option Addr} {l : List UInt8} (h : BS W B A c l) (k : Nat) (hk : k ≤ l.length) : BS W B (if c = k then A else Option.map (fun x => x.add k) A) (c - k) (l.drop k) := by
  have h0 := h.1
  refine ⟨by rw [List.length_drop]; omega, ?_⟩
  rcases h.2 with ⟨rfl, rfl⟩ | ⟨b, off, rfl, hb, hc⟩
  · refine .inl ⟨?_, by omega⟩
    split <;> rfl
  · right
    by_cases hck : c = k
    · rw [if_pos hck]
      refine ⟨b, off, rfl, hb, fun i hi => ?_⟩
      rw [List.length_drop] at hi
      omega
    · rw [if_neg hck]
      refine ⟨b, off + k, by rw [Option.map_some, add_plain rfl], hb, fun i hi => ?_⟩
      rw [List.length_drop] at hi
      have := hc (k + i) (by omega)
      rw [List.getElem_drop, Nat.add_assoc]
      exact this
theorem BS.csat {W : World} {B cap : Nat} {A : Option Addr} {l : List UInt8} (h : BS W B A cap l) : ∀ (j : Nat) u, (u8s l)[j]? = some u → ∃ b off, A = some ⟨b, off, none⟩ ∧ W.cell? ⟨b, off + j, none⟩ = some u := by
  intro j u hj
  have hjl : j < l.length := by have := (List.getElem?_eq_some_iff.1 hj).1; rwa [u8s_len] at this
  rw [u8s_get l j hjl] at hj
  obtain rfl := Option.some.inj hj
  rcases h.2 with ⟨h1, h2⟩ | ⟨b, off, e, hb, hc⟩
  · have := h.1; omega
  · exact ⟨b, off, e, hc j hjl⟩
end Go.Proofs.YtpncahklapfoaaaDoor
