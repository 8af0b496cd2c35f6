/- The writer of tokens of package script: it puts a token. -/
import Derived.Test.YtgmnoemkdigafaaDoorScrMem
import Derived.Lib.SliceRun
import Derived.Maps.AppendAt
import Derived.Laws.AppendOwnNone
namespace Go.Proofs.YtgmnoemkdigafaaDoor
open Go.RowKit
set_option linter.unusedVariables false

theorem info_tok : (Tryd.prog.info? 45).map (fun i => (i.zero, i.size, i.bytes)) = some (some (.agg #[.int .i64 0, .string ⟨#[]⟩, .int .i64 0]), 3, 32) := by kernel_rfl
def tokCells (l : List Tok) : List Value := l.flatMap fun t => [.int .i64 t.kind, .string t.text, .int .i64 t.num]
theorem tokCells_append (l : List Tok) (t : Tok) : tokCells (l ++ [t]) = tokCells l ++ [.int .i64 t.kind, .string t.text, .int .i64 t.num] := by simp [tokCells]
/-- The writer's block, whose tokens lie in a row of its own. -/
structure Wr (B : Nat) (W : World) (c : Nat) (l : List Tok) : Prop where
  ge : B ≤ c
  at_ : ∃ v, Bk W c [v] 68 ∧ W.ownsRow B 45 3 v l.length (tokCells l)
/-- What a writer leaves as it is. -/
structure Tw (B : Nat) (W W' : World) : Prop where
  below : Below B W W'
  bk : ∀ q cs t, Bk W q cs t → t ≠ 45 → t ≠ 68 → Bk W' q cs t
theorem Tw.trans {B : Nat} {x y z : World} (h : Tw B x y) (k : Tw B y z) : Tw B x z := ⟨h.below.trans k.below, fun q cs t hb h1 h2 => k.bk q cs t (h.bk q cs t hb h1 h2) h1 h2⟩
theorem Tw.refl (B : Nat) (x : World) : Tw B x x := ⟨Below.refl _ _, fun _ _ _ h _ _ => h⟩
theorem Wr.later {B : Nat} {W W' : World} {c : Nat} {l : List Tok} (h : Wr B W c l) (hb : Below W.heap.size W W') : Wr B W' c l := by
  obtain ⟨h1, v, h2, h3⟩ := h
  exact ⟨h1, v, h2.later hb, row_later hb h3⟩
theorem tw_later {B : Nat} {W W' : World} (hB : B ≤ W.heap.size) (hb : Below W.heap.size W W') : Tw B W W' := ⟨hb.mono hB, fun _ _ _ h _ _ => h.later hb⟩
theorem own_sl {w : World} {base e size n : Nat} {v : Value} {xs : List Value} (h : w.ownsRow base e size v n xs) : ∃ A c, v = .slice A n c := by
  rcases h.2 with ⟨h1, h2⟩ | ⟨g, cap, cur, h1, _⟩
  · exact ⟨none, 0, by rw [h1, h2]⟩
  · exact ⟨_, _, h1⟩
/-- A block of another type is not the row's. -/
theorem row_other {W : World} {B e s n q : Nat} {v : Value} {xs cs : List Value} {t : TypeId} (h : W.ownsRow B e s v n xs) (hb : Bk W q cs t) (hne : t ≠ e) : some q ≠ v.ownBlock := by
  intro e1
  rcases h.2 with ⟨rfl, _⟩ | ⟨g, cap, cur, rfl, _, hg, _⟩
  · cases e1
  · obtain rfl : q = g := Option.some.inj e1
    unfold Bk at hb
    rw [hg] at hb
    have := Option.some.inj hb
    simp only [Obj.cells.injEq] at this
    exact hne this.2.1.symm
set_option maxRecDepth 100000 in
set_option maxHeartbeats 4000000 in
theorem put_calls (B c : Nat) (l : List Tok) (k : Int) (s : ByteArray) (W : World) (h : Wr B W c l) (hl : l.length ≤ 1000000) :
    Calls Tryd.prog 43 #[.pointer (some ⟨c, 0, none⟩), .int .i64 k, .string s] W fun e W' => e = .returned (.tuple #[]) ∧ Wr B W' c (l ++ [⟨k, s, 0⟩]) ∧ Tw B W W' := by
  obtain ⟨hge, v, hb, hrow⟩ := h
  obtain ⟨i0, hi, hz0, hz1, hz2⟩ := info_parts info_tok
  have hbl := hb.lt
  have hBs : B ≤ W.heap.size := by omega
  have c0 := hb.cell 0 _ rfl
  have hfin : ∀ (v' : Value) (w1 : World), w1.ownsRow B 45 3 v' (l.length + 1) (tokCells l ++ [.int .i64 k, .string s, .int .i64 0]) → (W.alloc (.cells #[.int .i64 k, .string s, .int .i64 0] 45)).grownBy w1 v.ownBlock → w1.cell? ⟨c, 0, none⟩ = some v ∧ w1.frozen? ⟨c, 0, none⟩ = false ∧ Hid (Wr B (w1.setCell ⟨c, 0, none⟩ v') c (l ++ [⟨k, s, 0⟩]) ∧ Tw B W (w1.setCell ⟨c, 0, none⟩ v')) := fun v' w1 hown hgr => by
    have hb1 : Bk w1 c [v] 68 := (hb.alloc _).grown hgr (row_other hrow hb (by decide))
    refine ⟨hb1.cell 0 _ rfl, hb1.frozen 0, Lib.hid ⟨⟨hge, v', hb1.set 0 v', ?_⟩, (below_append (Below.refl B W) hBs hrow hgr).setCell (p := ⟨c, 0, none⟩) hge v', fun q cs t hq h1 h2 => ?_⟩⟩
    · rw [tokCells_append, List.length_append]
      exact own_set hown hb1 (by decide) 0 v'
    · have hq1 : Bk w1 q cs t := (hq.alloc _).grown hgr (row_other hrow hq h1)
      refine hq1.other ?_ 0 v'
      rintro rfl
      unfold Bk at hq1 hb1
      rw [hb1] at hq1
      have := Option.some.inj hq1
      simp only [Obj.cells.injEq] at this
      exact h2 this.2.1.symm
  have Hfin := Lib.hid hfin
  have Hrow := Lib.hid hrow
  have hrow2 := hrow
  clear hfin hb
  go_enter Tryd.func43, Tryd.ntmps43
  have hnw := new_cells W [.int .i64 k, .string s, .int .i64 0] 45
  go_wp2_with (at_builtin; refine wpList_append_own _ rfl _ _ 41 rfl B 45 i0 (.agg #[.int .i64 0, .string ⟨#[]⟩, .int .i64 0]) 3 32 Tryd.underlying41 hi hz0 hz1 hz2 rfl (by decide) _ _ _ rfl (hrow2.alloc _) ⟨W.heap.size, 0, none⟩ 1 1 [.int .i64 k, .string s, .int .i64 0] rfl rfl hnw (by simp [Value.oneCell']) (by unfold maxLen; omega) (by omega) (by simp; omega) ?_; intro v' w3 hown' hgrow _; obtain ⟨A5, c5, rfl⟩ := own_sl hown'; obtain ⟨d0, d1, Hf⟩ := Hfin.out _ w3 hown' hgrow; clear hgrow hnw hown' hrow2)
  go_end0
  exact ⟨rfl, Hf.out.1, Hf.out.2⟩
end Go.Proofs.YtgmnoemkdigafaaDoor
