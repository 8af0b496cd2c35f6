/- book.open, Sync and Crash: what they return. -/
import Derived.Test.YtpncahklapfoaaaDoorBats
import Derived.WalkSpells
import Derived.Lib.SliceRun
import Derived.Maps.AppendAt
import Derived.Deep.CutRange
import Derived.Deep.DeepCutAuto
import Derived.Outline
import Derived.Laws.AppendOwnNone
namespace Go.Proofs.YtpncahklapfoaaaDoor
open Go.RowKit
set_option linter.unusedVariables false

theorem one_u8s (l : List UInt8) : ∀ u ∈ u8s l, u.oneCell' = true := by
  intro u hu
  unfold u8s at hu
  obtain ⟨m, _, rfl⟩ := List.mem_map.1 hu
  rfl
theorem bs_none {W : World} {B cap : Nat} {A : Option Addr} {l : List UInt8} (h : BS W B A cap l) (hn : A = none) : l.length = 0 ∧ cap = 0 := by
  rcases h.2 with ⟨_, h2⟩ | ⟨b, off, e, _⟩
  · have := h.1; omega
  · rw [hn] at e; cases e
set_option maxRecDepth 100000 in
set_option maxHeartbeats 1000000 in
theorem cloneU_calls (A : Option Addr) (c : Nat) (l : List UInt8) (w : World) (hA : BS w w.heap.size A c l) (hb : l.length ≤ 1000000) :
    Calls Tryd.prog 41 #[.slice A l.length c] w fun e w' => ∃ v, e = .returned v ∧ w'.ownsRow w.heap.size 5 1 v l.length (u8s l) ∧ Below w.heap.size w w' := by
  obtain ⟨i0, hi, hz0, hz1, hz2⟩ := info_parts info_u8
  have hl := u8s_len l
  have hcs := hA.csat
  have hno := bs_none hA
  have h1 := one_u8s l
  generalize u8s l = xs at *
  generalize l.length = n at *
  cases A with
  | none =>
    obtain ⟨rfl, rfl⟩ := hno rfl
    obtain rfl : xs = [] := List.length_eq_zero_iff.1 (by simpa using hl)
    have hq : ∀ W, (binOp .eql 27 (.slice none 0 0) (.slice none 0 0)).run Tryd.prog W = .ok (.bool true) W := fun W => Lib.run_eql_slice_nil W 27 5 none 0 0 0 0 Tryd.underlying27
    clear hA
    go_enter Tryd.func41, Tryd.ntmps41
    go_wp2
    go_ret
    exact ⟨_, rfl, World.ownsRow_nil _ _ _ _, Below.refl _ _⟩
  | some a =>
    have hbA : Below w.heap.size w (w.alloc (.cells #[] 5)) := (Below.refl _ w).alloc (Nat.le_refl _) _
    have hr0 := World.ownsRow_lit (base := w.heap.size) (e := 5) (size := 1) w #[] 0 (Nat.le_refl _) (by decide) rfl
    have hnw : ∀ (j : Nat) u, xs[j]? = some u → (w.alloc (.cells #[] 5)).cell? (a.add j) = some u := fun j u hj => by
      obtain ⟨b, off, e, hc⟩ := hcs j u hj
      obtain rfl := Option.some.inj e
      rw [add_plain rfl]
      exact cell_later hbA hc
    have Hnw := Lib.hid hnw
    have H1 := Lib.hid h1
    have hq : ∀ W, (binOp .eql 27 (.slice (some a) n c) (.slice none 0 0)).run Tryd.prog W = .ok (.bool false) W := fun W => Lib.run_eql_slice_nil W 27 5 (some a) n c 0 0 Tryd.underlying27
    clear hnw hA h1 hno hcs
    go_enter Tryd.func41, Tryd.ntmps41
    go_wp2_with (at_builtin; refine wpList_append_own _ rfl _ _ 27 rfl w.heap.size 5 i0 (.int .u8 0) 1 1 Tryd.underlying27 hi hz0 hz1 hz2 rfl (by decide) (.slice (some ⟨w.heap.size, 0, none⟩) 0 0) 0 [] rfl hr0 a n c xs rfl (by omega) Hnw.out H1.out (by unfold maxLen; omega) (by omega) (by simp) ?_; intro v' w1 hown' hgrow _; rw [Nat.zero_add, List.nil_append] at hown'; have hb2 := hbA.grown hgrow (by simp) (by intro k e; simp [Value.ownBlock] at e; omega); have Hown := Lib.hid hown'; have Hb2 := Lib.hid hb2; clear hown' hgrow hb2)
    go_ret
    exact ⟨_, rfl, Hown.out, Hb2.out⟩
/-- What open ends in. -/
def OpenOk (w : World) (l : List UInt8) (sy : Nat) (e : Ending) (w' : World) : Prop :=
  ∃ A c, e = .returned (.tuple #[.agg #[.slice A l.length c, .int .i64 sy], .bool true]) ∧ w'.ownsRow w.heap.size 5 1 (.slice A l.length c) l.length (u8s l) ∧ Below w.heap.size w w'
set_option maxRecDepth 100000 in
set_option maxHeartbeats 1000000 in
theorem open_calls (A : Option Addr) (c : Nat) (l : List UInt8) (sy : Nat) (w : World) (hA : BS w w.heap.size A c l) (hl : l.length ≤ 100000) (hs : sy ≤ l.length) :
    Calls Tryd.prog 32 #[.agg #[.slice A l.length c, .int .i64 sy]] w fun e w' => OpenOk w l sy e w' := by
  have hb1 : Below w.heap.size w ((w.alloc (.cells #[.slice A l.length c, .int .i64 sy] 42)).alloc (.cells #[.slice none 0 0, .int .i64 0] 42)) := ((Below.refl _ w).alloc (Nat.le_refl _) _).alloc (by simp) _
  have hX := (Bk.new w [.slice A l.length c, .int .i64 sy] 42).alloc (.cells #[.slice none 0 0, .int .i64 0] 42)
  have hR := Bk.new (w.alloc (.cells #[.slice A l.length c, .int .i64 sy] 42)) [.slice none 0 0, .int .i64 0] 42
  rw [show (w.alloc (.cells #[.slice A l.length c, .int .i64 sy] 42)).heap.size = w.heap.size + 1 by simp] at hR
  have hs1 : ((w.alloc (.cells #[.slice A l.length c, .int .i64 sy] 42)).alloc (.cells #[.slice none 0 0, .int .i64 0] 42)).heap.size = w.heap.size + 2 := by simp
  have hA1 := hA.later hb1
  have hcl := fun W (hW : Below w.heap.size w W) => cloneU_calls A c l W (hA.later hW) (by omega)
  go_enter Tryd.func32, Tryd.ntmps32
  unfold OpenOk
  generalize u8s l = xs at *
  generalize hn : l.length = n at *
  have Hcl := Lib.hid hcl
  have x0 := hX.cell 0 _ rfl
  have x1 := hX.cell 1 _ rfl
  have q1 : ¬ (sy : Int) < 0 := by omega
  have q2 : ¬ (n : Int) < (sy : Int) := by omega
  have q3 : ¬ (100000 : Int) < (n : Int) := by omega
  clear hn hA hcl
  go_upto_region 3 with fail
  generalize (w.alloc (.cells #[.slice A n c, .int .i64 sy] 42)).alloc (.cells #[.slice none 0 0, .int .i64 0] 42) = w1 at *
  have hd := bdr w1
  have hmk := fun (W : World) (hW : Below (w.heap.size + 1) w1.drew W) => And.intro ((Bk.below (hX.later hd) hW (Nat.lt_succ_self _)).cell 0 _ rfl) (And.intro ((Bk.below (hX.later hd) hW (Nat.lt_succ_self _)).cell 1 _ rfl) hW)
  have Hmk := Lib.hid hmk
  have Hb1 := Lib.hid (hb1.trans (hd.mono hb1.size))
  have HR := Lib.hid (hR.later hd)
  have hKK := Hmk.out w1.drew (Below.refl _ _)
  have hs1' : w1.drew.heap.size = w.heap.size + 2 := hs1
  have Hs1 := Lib.hid hs1'
  clear hmk hb1 hR hX x0 x1 hA1 hd hs1 hs1'
  go_wp2_with fail
  go_region_held3 (fun W => W.cell? ⟨w.heap.size, 0, none⟩ = some (.slice A n c) ∧ W.cell? ⟨w.heap.size, 1, none⟩ = some (.int .i64 sy) ∧ Below (w.heap.size + 1) w1.drew W) (first | exact hKK | (refine Hmk.out _ (Below.setCell (Below.setCell (k2 (by first | assumption | exact hS)) ?_ _) ?_ _) <;> exact Nat.le_refl _))
    (first | (go_at_call 41; (with_reducible refine (Hcl.out _ Hb1.out).mono ?_); rintro e w5 ⟨v, rfl, hv, hb5⟩; obtain ⟨Av, cv, rfl⟩ := own_sliceE hv; have hKK := Hmk.out w5 (hb5.mono (by rw [Hs1.out]; omega)); have hR5 := HR.out.later hb5; have y0 := hR5.cell 0 _ rfl; have y1 := hR5.cell 1 _ rfl; have f0 := hR5.frozen 0; have f1 := hR5.frozen 1))
  have hZ := (hR5.set 0 (.slice Av n cv)).set 1 (.int .i64 sy)
  have z0 := hZ.cell 0 _ rfl
  have z1 := hZ.cell 1 _ rfl
  have hrz := own_set (own_set hv hR5 (by decide) 0 (.slice Av n cv)) (hR5.set 0 (.slice Av n cv)) (by decide) 1 (.int .i64 sy)
  have hbz := ((btr Hb1.out hb5).setCell (p := ⟨w.heap.size + 1, 0, none⟩) (by show w.heap.size ≤ w.heap.size + 1; omega) (.slice Av n cv)).setCell (p := ⟨w.heap.size + 1, 1, none⟩) (by show w.heap.size ≤ w.heap.size + 1; omega) (.int .i64 sy)
  have Hrz := Lib.hid (row_base (base2 := w.heap.size) (by rw [Hs1.out]; omega) hrz)
  have Hbz := Lib.hid hbz
  clear hKK hb5 hv hrz hbz hR5 y0 y1 f0 f1 hZ Hmk
  go_wp2_with fail
  exact bodyPost_ret (v := .tuple #[.agg #[.slice Av n cv, .int .i64 sy], .bool true]) (by simp [results, Tryd.results32, go_sem, z0, z1]) rfl ⟨_, _, rfl, Hrz.out, Hbz.out⟩
/-- What Sync ends in. -/
def SyncOk (w : World) (l : List UInt8) (sy : Nat) (e : Ending) (w' : World) : Prop :=
  ∃ A c, e = .returned (.tuple #[.agg #[.slice A l.length c, .int .i64 sy], .int .i64 0]) ∧ w'.ownsRow w.heap.size 5 1 (.slice A l.length c) l.length (u8s l) ∧ Below w.heap.size w w'
set_option maxRecDepth 100000 in
set_option maxHeartbeats 1000000 in
theorem sync_calls (A : Option Addr) (c : Nat) (l : List UInt8) (sy : Nat) (w : World) (hA : BS w w.heap.size A c l) (hl : l.length ≤ 100000) (hs : sy ≤ l.length) :
    Calls Tryd.prog 23 #[.agg #[.slice A l.length c, .int .i64 sy]] w fun e w' => SyncOk w l l.length e w' := by
  obtain ⟨W, hW⟩ : ∃ W, W = (w.alloc (.cells #[.slice A l.length c, .int .i64 sy] 42)).alloc (.cells #[.slice none 0 0, .int .i64 0] 42) := ⟨_, rfl⟩
  have hX : Bk W w.heap.size [.slice A l.length c, .int .i64 sy] 42 := by rw [hW]; exact (Bk.new w [.slice A l.length c, .int .i64 sy] _).alloc _
  have hR : Bk W (w.heap.size + 1) [.slice none 0 0, .int .i64 0] 42 := by
    have h := Bk.new (w.alloc (.cells #[.slice A l.length c, .int .i64 sy] 42)) [.slice none 0 0, .int .i64 0] 42
    rw [show (w.alloc (.cells #[.slice A l.length c, .int .i64 sy] 42)).heap.size = w.heap.size + 1 by simp] at h
    rw [hW]; exact h
  have hb1 : Below w.heap.size w W := by rw [hW]; exact ((Below.refl _ w).alloc (Nat.le_refl _) _).alloc (by simp) _
  have hs1 : w.heap.size + 2 ≤ W.heap.size := by rw [hW]; simp
  have hop := open_calls A c l sy W (hA.later hb1) hl hs
  have Hop := Lib.hid hop
  have x0 := hX.cell 0 _ rfl
  have x1 := hX.cell 1 _ rfl
  clear hop hA
  go_enter Tryd.func23, Tryd.ntmps23
  unfold SyncOk
  go_wp2_with fail
  rw [← hW]
  clear hW
  refine Hop.out.mono ?_
  rintro e w2 ⟨A1, c1, rfl, hr2, hb2⟩
  have hR2 := hR.later hb2
  have hb3 := btr hb1 hb2
  have hs2 := hb2.size
  have hq2 : w.heap.size + 2 ≤ w2.heap.size := by omega
  clear Hop hX hR x0 x1 hb1 hb2 hs2
  have hbA : Below w2.heap.size w2 (w2.alloc (.cells #[.slice A1 l.length c1, .int .i64 sy] 42)) := (Below.refl _ w2).alloc (Nat.le_refl _) _
  have hT := Bk.new w2 [.slice A1 l.length c1, .int .i64 sy] 42
  have hR3 := hR2.later hbA
  have hr3 := row_later hbA hr2
  have hb4 := btr hb3 hbA
  clear hR2 hb3 hbA hr2
  go_upto_region 4 with fail
  generalize w2.alloc (.cells #[.slice A1 l.length c1, .int .i64 sy] 42) = w3 at *
  have t0 := hT.cell 0 _ rfl
  have t1 := hT.cell 1 _ rfl
  have ft := hT.frozen 1
  have hT4 := hT.set 1 (.int .i64 l.length)
  have hR4 := hR3.other (c := w2.heap.size) (by omega) 1 (.int .i64 l.length)
  have hr4 := own_set hr3 hT (by decide) 1 (.int .i64 l.length)
  have hb5 := hb4.setCell (p := ⟨w2.heap.size, 1, none⟩) (by show w.heap.size ≤ w2.heap.size; omega) (.int .i64 l.length)
  clear hT hR3 hr3 hb4
  go_upto_region 5 with fail
  generalize w3.setCell ⟨w2.heap.size, 1, none⟩ (.int .i64 l.length) = w4 at *
  clear t0 t1 ft
  have t0 := hT4.cell 0 _ rfl
  have t1 := hT4.cell 1 _ rfl
  have r0 := hR4.cell 0 _ rfl
  have r1 := hR4.cell 1 _ rfl
  have f0 := hR4.frozen 0
  have f1 := hR4.frozen 1
  have hZ := (hR4.set 0 (.slice A1 l.length c1)).set 1 (.int .i64 l.length)
  have z0 := hZ.cell 0 _ rfl
  have z1 := hZ.cell 1 _ rfl
  have hrz := own_set (own_set hr4 hR4 (by decide) 0 (.slice A1 l.length c1)) (hR4.set 0 (.slice A1 l.length c1)) (by decide) 1 (.int .i64 l.length)
  have hbz := (hb5.setCell (p := ⟨w.heap.size + 1, 0, none⟩) (by show w.heap.size ≤ w.heap.size + 1; omega) (.slice A1 l.length c1)).setCell (p := ⟨w.heap.size + 1, 1, none⟩) (by show w.heap.size ≤ w.heap.size + 1; omega) (.int .i64 l.length)
  have Hrz := Lib.hid (row_base (base2 := w.heap.size) (by omega) hrz)
  have Hbz := Lib.hid hbz
  clear hrz hbz hr4 hT4 hR4 hZ hb5
  go_wp2_with fail
  exact bodyPost_ret (v := .tuple #[.agg #[.slice A1 l.length c1, .int .i64 l.length], .int .i64 0]) (by simp [results, Tryd.results23, go_sem, z0, z1]) rfl ⟨_, _, rfl, Hrz.out, Hbz.out⟩
/-- What Crash ends in: so many bytes stay. -/
def CrashOk (w : World) (l : List UInt8) (k : Nat) (e : Ending) (w' : World) : Prop :=
  ∃ A c, e = .returned (.tuple #[.agg #[.slice A k c, .int .i64 k], .int .i64 0]) ∧ BS w' w'.heap.size A c (l.take k) ∧ Below w.heap.size w w'
set_option maxRecDepth 100000 in
set_option maxHeartbeats 1000000 in
theorem crash_calls (A : Option Addr) (c : Nat) (l : List UInt8) (sy keep : Nat) (w : World) (hA : BS w w.heap.size A c l) (hl : l.length ≤ 100000) (hs : sy ≤ l.length) (hk : keep ≤ 100000) :
    Calls Tryd.prog 21 #[.agg #[.slice A l.length c, .int .i64 sy], .int .i64 keep] w fun e w' => CrashOk w l (sy + min keep (l.length - sy)) e w' := by
  obtain ⟨W, hW⟩ : ∃ W, W = (w.alloc (.cells #[.slice A l.length c, .int .i64 sy] 42)).alloc (.cells #[.slice none 0 0, .int .i64 0] 42) := ⟨_, rfl⟩
  have hX : Bk W w.heap.size [.slice A l.length c, .int .i64 sy] 42 := by rw [hW]; exact (Bk.new w [.slice A l.length c, .int .i64 sy] _).alloc _
  have hR : Bk W (w.heap.size + 1) [.slice none 0 0, .int .i64 0] 42 := by
    have h := Bk.new (w.alloc (.cells #[.slice A l.length c, .int .i64 sy] 42)) [.slice none 0 0, .int .i64 0] 42
    rw [show (w.alloc (.cells #[.slice A l.length c, .int .i64 sy] 42)).heap.size = w.heap.size + 1 by simp] at h
    rw [hW]; exact h
  have hb1 : Below w.heap.size w W := by rw [hW]; exact ((Below.refl _ w).alloc (Nat.le_refl _) _).alloc (by simp) _
  have hs1 : w.heap.size + 2 ≤ W.heap.size := by rw [hW]; simp
  have hop := open_calls A c l sy W (hA.later hb1) hl hs
  have Hop := Lib.hid hop
  have x0 := hX.cell 0 _ rfl
  have x1 := hX.cell 1 _ rfl
  clear hop hA
  go_enter Tryd.func21, Tryd.ntmps21
  unfold CrashOk
  go_wp2_with fail
  rw [← hW]
  clear hW
  refine Hop.out.mono ?_
  rintro e w2 ⟨A1, c1, rfl, hr2, hb2⟩
  have hR2 := hR.later hb2
  have hb3 := btr hb1 hb2
  have hs2 := hb2.size
  have hq2 : w.heap.size + 2 ≤ w2.heap.size := by omega
  clear Hop hX hR x0 x1 hb1 hb2 hs2
  have hbA : Below w2.heap.size w2 (w2.alloc (.cells #[.slice A1 l.length c1, .int .i64 sy] 42)) := (Below.refl _ w2).alloc (Nat.le_refl _) _
  have hT := Bk.new w2 [.slice A1 l.length c1, .int .i64 sy] 42
  have hR3 := hR2.later hbA
  have hr3 := row_later hbA hr2
  have hb4 := btr hb3 hbA
  have hkk : ¬ (keep : Int) < 0 := by omega
  clear hR2 hb3 hbA hr2
  go_upto_region 6 with fail
  generalize w2.alloc (.cells #[.slice A1 l.length c1, .int .i64 sy] 42) = w3 at *
  have t0 := hT.cell 0 _ rfl
  have t1 := hT.cell 1 _ rfl
  have hcap := own_cap hr3
  have hw1 : IntKind.i64.wrap ((l.length : Int) - (sy : Int)) = ((l.length - sy : Nat) : Int) := by rw [IntKind.wrap_i64]; omega
  have hw2 : IntKind.i64.wrap ((sy : Int) + ((min keep (l.length - sy) : Nat) : Int)) = ((sy + min keep (l.length - sy) : Nat) : Int) := by rw [IntKind.wrap_i64]; omega
  go_upto_region 7 with fail
  obtain ⟨n, hn⟩ : ∃ n, n = sy + min keep (l.length - sy) := ⟨_, rfl⟩
  have hnn : ((sy : Int) + min (keep : Int) ((l.length - sy : Nat) : Int)) = (n : Int) := by omega
  rw [hnn]
  have Hn := Lib.hid hn
  have hnl : n ≤ l.length := by omega
  clear hnn hw1 hw2 hn hkk hk hs
  have n0 : (0 : Int) ≤ (n : Int) := by omega
  have n1 : (n : Int) ≤ (c1 : Int) := by omega
  have r0 := hR3.cell 0 _ rfl
  have r1 := hR3.cell 1 _ rfl
  have f0 := hR3.frozen 0
  have f1 := hR3.frozen 1
  have hZ := (hR3.set 0 (.slice A1 n n)).set 1 (.int .i64 n)
  have z0 := hZ.cell 0 _ rfl
  have z1 := hZ.cell 1 _ rfl
  have hrz := own_set (own_set hr3 hR3 (by decide) 0 (.slice A1 n n)) (hR3.set 0 (.slice A1 n n)) (by decide) 1 (.int .i64 n)
  have hbz := (hb4.setCell (p := ⟨w.heap.size + 1, 0, none⟩) (by show w.heap.size ≤ w.heap.size + 1; omega) (.slice A1 n n)).setCell (p := ⟨w.heap.size + 1, 1, none⟩) (by show w.heap.size ≤ w.heap.size + 1; omega) (.int .i64 n)
  have hbc := (bs_of_own hrz rfl).cut n hnl n (Nat.le_refl _) (fun h => by have := (bs_none (bs_of_own hrz rfl) h).1; omega)
  have Hbc := Lib.hid hbc
  have Hbz := Lib.hid hbz
  clear hrz hbz hr3 hT hR3 hZ hb4 hbc
  go_wp2_with fail
  exact bodyPost_ret (v := .tuple #[.agg #[.slice A1 n n, .int .i64 n], .int .i64 0]) (by simp [results, Tryd.results21, go_sem, z0, z1]) rfl (by rw [← Hn.out]; exact ⟨_, _, rfl, Hbc.out, Hbz.out⟩)
set_option maxRecDepth 100000 in
set_option maxHeartbeats 1000000 in
theorem crash_bad (A : Option Addr) (c : Nat) (l : List UInt8) (sy : Nat) (w : World) (hA : BS w w.heap.size A c l) (hl : l.length ≤ 100000) (hs : sy ≤ l.length) :
    Calls Tryd.prog 21 #[.agg #[.slice A l.length c, .int .i64 sy], .int .i64 (-1)] w fun e w' => e = .returned (.tuple #[.agg #[.slice none 0 0, .int .i64 0], .int .i64 6]) ∧ Below w.heap.size w w' := by
  obtain ⟨W, hW⟩ : ∃ W, W = (w.alloc (.cells #[.slice A l.length c, .int .i64 sy] 42)).alloc (.cells #[.slice none 0 0, .int .i64 0] 42) := ⟨_, rfl⟩
  have hX : Bk W w.heap.size [.slice A l.length c, .int .i64 sy] 42 := by rw [hW]; exact (Bk.new w [.slice A l.length c, .int .i64 sy] _).alloc _
  have hR : Bk W (w.heap.size + 1) [.slice none 0 0, .int .i64 0] 42 := by
    have h := Bk.new (w.alloc (.cells #[.slice A l.length c, .int .i64 sy] 42)) [.slice none 0 0, .int .i64 0] 42
    rw [show (w.alloc (.cells #[.slice A l.length c, .int .i64 sy] 42)).heap.size = w.heap.size + 1 by simp] at h
    rw [hW]; exact h
  have hb1 : Below w.heap.size w W := by rw [hW]; exact ((Below.refl _ w).alloc (Nat.le_refl _) _).alloc (by simp) _
  have hs1 : w.heap.size + 2 ≤ W.heap.size := by rw [hW]; simp
  have hop := open_calls A c l sy W (hA.later hb1) hl hs
  have Hop := Lib.hid hop
  have x0 := hX.cell 0 _ rfl
  have x1 := hX.cell 1 _ rfl
  clear hop hA
  go_enter Tryd.func21, Tryd.ntmps21
  go_wp2_with fail
  rw [← hW]
  clear hW
  refine Hop.out.mono ?_
  rintro e w2 ⟨A1, c1, rfl, hr2, hb2⟩
  have hR2 := hR.later hb2
  have hb3 := btr hb1 hb2
  have hs2 := hb2.size
  have hq2 : w.heap.size + 2 ≤ w2.heap.size := by omega
  clear Hop hX hR x0 x1 hb1 hb2 hs2
  have hbA : Below w2.heap.size w2 (w2.alloc (.cells #[.slice A1 l.length c1, .int .i64 sy] 42)) := (Below.refl _ w2).alloc (Nat.le_refl _) _
  have hR3 := hR2.later hbA
  have hb4 := btr hb3 hbA
  clear hR2 hb3 hbA hr2
  go_upto_region 5 with fail
  generalize w2.alloc (.cells #[.slice A1 l.length c1, .int .i64 sy] 42) = w3 at *
  have r0 := hR3.cell 0 _ rfl
  have r1 := hR3.cell 1 _ rfl
  have f0 := hR3.frozen 0
  have f1 := hR3.frozen 1
  have hZ := (hR3.set 0 (.slice none 0 0)).set 1 (.int .i64 0)
  have z0 := hZ.cell 0 _ rfl
  have z1 := hZ.cell 1 _ rfl
  have hbz := (hb4.setCell (p := ⟨w.heap.size + 1, 0, none⟩) (by show w.heap.size ≤ w.heap.size + 1; omega) (.slice none 0 0)).setCell (p := ⟨w.heap.size + 1, 1, none⟩) (by show w.heap.size ≤ w.heap.size + 1; omega) (.int .i64 0)
  have Hbz := Lib.hid hbz
  clear hbz hR3 hZ hb4
  go_wp2_with fail
  exact bodyPost_ret (v := .tuple #[.agg #[.slice none 0 0, .int .i64 0], .int .i64 6]) (by simp [results, Tryd.results21, go_sem, z0, z1]) rfl ⟨rfl, Hbz.out⟩
end Go.Proofs.YtpncahklapfoaaaDoor
