/- A strings.Builder of the call's own: WriteString and String. -/
import Derived.Test.YtlbibklbckabnaaDoorLet2
import Derived.Lib.Builder
import Derived.Lib.AppendStr
import Derived.Laws.Externs
namespace Go.Proofs.YtlbibklbckabnaaDoor
open Go.RowKit
set_option linter.unusedVariables false

theorem info_bld : (Tryd.prog.info? 92).map (·.size) = some 2 := by kernel_rfl
theorem lies_bld : liesAt Tryd.prog Tryd.prog.depth 92 (2 / Tryd.prog.cellsOf 92) 0 92 1 = true := by kernel_rfl
set_option maxHeartbeats 1000000 in
set_option maxRecDepth 100000 in
/-- copyCheck at a builder that was written. -/
theorem copyCheck_used (b : Nat) (w : World) (h0 : w.cell? ⟨b, 0, none⟩ = some (.pointer (some ⟨b, 0, none⟩))) :
    Calls Tryd.prog 68 #[.pointer (some ⟨b, 0, none⟩)] w fun e w' => e = .returned (.tuple #[]) ∧ w' = w := by
  obtain ⟨j, hj, _⟩ := Option.map_eq_some_iff.1 info_bld
  go_enter Tryd.func68, Tryd.ntmps68
  go_wp2
  rw [Lib.run_neq_ptr_same w _ Tryd.underlying90 hj]
  go_wp2
  go_end0
  exact ⟨rfl, rfl⟩
set_option maxHeartbeats 1000000 in
set_option maxRecDepth 100000 in
/-- copyCheck at a new builder: it lays its own address. -/
theorem copyCheck_fresh (b : Nat) (w : World) (h0 : w.cell? ⟨b, 0, none⟩ = some (.pointer none)) (hsh : w.shape? b = some (92, 2)) (hfz : w.frozen? ⟨b, 0, none⟩ = false) :
    Calls Tryd.prog 68 #[.pointer (some ⟨b, 0, none⟩)] w fun e w' => e = .returned (.tuple #[]) ∧ w' = w.setCell ⟨b, 0, none⟩ (.pointer (some ⟨b, 0, none⟩)) := by
  obtain ⟨j, hj, hjs⟩ := Option.map_eq_some_iff.1 info_bld
  go_enter Tryd.func68, Tryd.ntmps68
  go_wp2
  rw [Lib.run_to_unsafe w ⟨b, 0, none⟩ Tryd.underlying90 Tryd.underlying116 hj (by rw [hjs]; decide) hsh (Nat.zero_lt_succ 1)]
  simp only [Result.andThen]
  rw [Oper.upon_value]
  go_wp2
  rw [run_callFunc_extern Tryd.func80 (by kernel_rfl) (by kernel_rfl) (by kernel_rfl) (e := Extern.AbiNoEscape.same) (by kernel_rfl)]
  rw [Lib.run_noEscape]
  simp only [Result.andThen]
  rw [Oper.upon_value]
  go_wp2
  rw [Lib.run_from_unsafe w ⟨b, 0, none⟩ Tryd.underlying116 Tryd.underlying90 hj hsh lies_bld]
  simp only [Result.andThen]
  rw [Oper.upon_value]
  go_wp2
  go_end0
  exact ⟨rfl, rfl⟩
theorem info_u8B : (Tryd.prog.info? 5).map (fun i => (i.zero, i.size, i.bytes)) = some (some (.int .u8 0), 1, 1) := by kernel_rfl
/-- A builder of one's own that holds these bytes. -/
def Bld (B b : Nat) (l : List UInt8) (W : World) : Prop := Lib.IsBuilder 92 5 B b (Lib.byteCells l) W
theorem byteCells_append (a b : List UInt8) : Lib.byteCells (a ++ b) = Lib.byteCells a ++ Lib.byteCells b := by simp [Lib.byteCells]
theorem Bld.later {B b : Nat} {l : List UInt8} {W W' : World} (h : Bld B b l W) (hb : Below W.heap.size W W') : Bld B b l W' := by
  have k : ∀ p, Lib.BuilderAt 92 5 B b p (Lib.byteCells l) W → Lib.BuilderAt 92 5 B b p (Lib.byteCells l) W' := by
    rintro p ⟨h1, v, h2, h3, h4⟩
    exact ⟨h1, v, (hb.block b (Array.getElem?_eq_some_iff.1 h2).1).trans h2, ownsRow_laterE hb h3, h4⟩
  exact h.imp (k _) (k _)
theorem Bld.lt {B b : Nat} {l : List UInt8} {W : World} (h : Bld B b l W) : b < W.heap.size := by
  rcases h with h | h
  · exact h.lt
  · exact h.lt
set_option maxHeartbeats 1000000 in
set_option maxRecDepth 100000 in
theorem copyCheck_calls (B b : Nat) (l : List UInt8) (w : World) (h : Bld B b l w) :
    Calls Tryd.prog 68 #[.pointer (some ⟨b, 0, none⟩)] w fun e w' => e = .returned (.tuple #[]) ∧ Lib.BuilderAt 92 5 B b (.pointer (some ⟨b, 0, none⟩)) (Lib.byteCells l) w' ∧ Below B w w' := by
  rcases h with h | h
  · refine (copyCheck_fresh b w h.cell0 h.shape h.frozen0).mono ?_
    rintro e w' ⟨rfl, rfl⟩
    exact ⟨rfl, h.used _, (Below.refl B w).setCell (p := ⟨b, 0, none⟩) h.1 _⟩
  · refine (copyCheck_used b w h.cell0).mono ?_
    rintro e w' ⟨rfl, rfl⟩
    exact ⟨rfl, h, Below.refl B _⟩
theorem wstr_kept {w w' : World} {b : Nat} {v u : Value} {row : Option Nat} (hg : w.grownBy w' row) (hlt : b < w.heap.size) (hne : row ≠ some b) (hb : w.heap[b]? = some (.cells #[u, v] 92 (0, 0))) : w'.heap[b]? = some (.cells #[u, v] 92 (0, 0)) := by
  rw [hg.block b hlt (fun e => hne e.symm)]; exact hb
theorem wstr_c0 {w : World} {b : Nat} {v u : Value} (hb : w.heap[b]? = some (.cells #[u, v] 92 (0, 0))) : w.cell? ⟨b, 0, none⟩ = some u := by rw [Lib.cell_of_heap hb]; rfl
theorem wstr_c1 {w : World} {b : Nat} {v u : Value} (hb : w.heap[b]? = some (.cells #[u, v] 92 (0, 0))) : w.cell? ⟨b, 1, none⟩ = some v := by rw [Lib.cell_of_heap hb]; rfl
set_option maxHeartbeats 4000000 in
set_option maxRecDepth 100000 in
theorem writeString_calls (B b : Nat) (l : List UInt8) (s : ByteArray) (w : World) (h : Bld B b l w) (hlen : l.length + s.size ≤ 1000000) (hBw : B ≤ w.heap.size) :
    Calls Tryd.prog 55 #[.pointer (some ⟨b, 0, none⟩), .string s] w fun e w' => e = .returned (.tuple #[.int .i64 s.size, .nilIface]) ∧ Bld B b (l ++ bs s) w' ∧ Below B w w' := by
  obtain ⟨i0, hi, hz0, hz1, hz2⟩ := info_parts info_u8B
  have hbl : (Lib.byteCells l).length = l.length := by simp [Lib.byteCells]
  go_enter Tryd.func55, Tryd.ntmps55
  go_wp2_with fail
  refine (copyCheck_calls B b l _ h).mono ?_
  rintro e w1 ⟨rfl, h1, hb1⟩
  obtain ⟨hB, v, hbk, hown, hne⟩ := h1
  have c1 : w1.cell? ⟨b, 1, none⟩ = some v := by rw [Lib.cell_of_heap hbk]; rfl
  have hlt : b < w1.heap.size := (Array.getElem?_eq_some_iff.1 hbk).1
  have hs1 := hb1.size
  have Hbk := Lib.hid hbk
  have Hbl := Lib.hid hbl
  have Hne := Lib.hid hne
  have Hb1 := Lib.hid hb1
  have hl2 : (Lib.byteCells l).length ≤ l.length := Nat.le_of_eq hbl
  clear h hbk hbl hne hb1
  go_wp2_with (at_builtin; refine Lib.wpList_append_own_string _ rfl _ _ 60 9 rfl B 5 i0 Tryd.underlying60 Tryd.underlying9 hi hz0 hz1 hz2 _ _ _ rfl hown s rfl (by unfold maxLen; omega) (by omega) (by omega) ?_; intro v' w2 hown' hgrow _; obtain ⟨A, c, rfl⟩ := own_slice hown'; have hb2 := wstr_kept hgrow hlt Hne.out Hbk.out; have d0 := wstr_c0 hb2; have d1 := wstr_c1 hb2; have f1 := Lib.frozen_of_heap hb2 1; have Hb2 := Lib.hid hb2; have Hown := Lib.hid hown'; have Hgr := Lib.hid (Hb1.out.grown hgrow (by omega) (fun k hk => own_base' hown k hk)); clear hb2 hown' hgrow)
  go_ret2
  refine ⟨rfl, .inr ?_, Hgr.out.setCell (p := ⟨b, 1, none⟩) hB _⟩
  have hput := Lib.BuilderAt.put (T := 92) (e := 5) hB Hb2.out (bs' := Lib.byteCells l ++ Lib.strCells s) (by rw [List.length_append, Lib.strCells_length]; exact Hown.out) (by decide)
  rw [byteCells_append]
  exact hput
theorem string_calls (B b : Nat) (l : List UInt8) (w : World) (h : Bld B b l w) (hBw : B ≤ w.heap.size) :
    Calls Tryd.prog 56 #[.pointer (some ⟨b, 0, none⟩)] w fun e w' => e = .returned (.string (mkS l)) ∧ Below B w w' :=
  Tryd.Builder_String_any B b l w h hBw
end Go.Proofs.YtlbibklbckabnaaDoor
