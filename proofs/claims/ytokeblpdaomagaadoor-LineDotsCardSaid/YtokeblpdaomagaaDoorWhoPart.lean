/- who.Part: what it answers. -/
import Derived.Test.YtokeblpdaomagaaDoorWho
namespace Go.Proofs.YtokeblpdaomagaaDoor
open Go.RowKit

/-- What who.Part answers. -/
def partA (k : Int) (a : Adr) : ByteArray × Int :=
  if checkA a ≠ 0 then (mkS [], checkA a) else if k = 1 then (a.loc ++ mkS [64] ++ a.dom, 0) else if k = 2 then (a.loc, 0) else if k = 3 then (a.dom, 0) else (mkS [], 2)

set_option maxRecDepth 100000 in
set_option maxHeartbeats 2000000 in
theorem part_calls (k : Int) (a : Adr) (m : Int) (w : World) (hl : a.loc.size ≤ 100000) (hd : a.dom.size ≤ 100000) (hm : w.cell? ⟨0, 0, none⟩ = some (.int .i64 m)) :
    Calls Tryd.prog 49 #[.int .i64 k, .agg #[.string a.loc, .string a.dom]] w fun e w' => e = .returned (.tuple #[.string (partA k a).1, .int .i64 (partA k a).2]) ∧ Below w.heap.size w w' := by
  have hb0 := (Below.refl w.heap.size w).alloc (Nat.le_refl _) (.cells #[.string a.loc, .string a.dom] 28)
  have d1 := check_calls a m _ hl hd (cell_later hb0 hm)
  have D1 := Lib.hid d1
  clear d1 hm
  have c0 : (w.alloc (.cells #[.string a.loc, .string a.dom] 28)).cell? ⟨w.heap.size, 0, none⟩ = some (.string a.loc) := by rw [World.cell?_alloc_at _ _ _ _ rfl]; rfl
  have c1 : (w.alloc (.cells #[.string a.loc, .string a.dom] 28)).cell? ⟨w.heap.size, 1, none⟩ = some (.string a.dom) := by rw [World.cell?_alloc_at _ _ _ _ rfl]; rfl
  have C0 := Lib.hid c0
  have C1 := Lib.hid c1
  clear c0 c1
  by_cases hz : checkA a = 0
  · have D' := D1.out
    rw [hz] at D'
    have D := Lib.hid D'
    clear D1 D'
    have pr : partA k a = if k = 1 then (a.loc ++ mkS [64] ++ a.dom, 0) else if k = 2 then (a.loc, 0) else if k = 3 then (a.dom, 0) else (mkS [], 2) := by
      unfold partA; rw [if_neg (by rw [hz]; simp)]
    clear hz
    go_enter Tryd.func49, Tryd.ntmps49
    go_wp2_with fail
    refine D.out.mono ?_
    rintro e w1 ⟨rfl, hb1⟩
    have k0 := cell_later hb1 C0.out
    have k1 := cell_later hb1 C1.out
    have hb2 := hb0.trans (hb1.mono hb0.size)
    have hsz : a.loc.size + (mkS [64]).size + a.dom.size ≤ 300000 := by rw [mkS_size]; simp; omega
    clear C0 C1 hb0 hb1 D
    have Pr := Lib.hid pr
    clear pr
    by_cases h1 : k = 1
    · subst h1
      go_wp2
      go_ret2
      exact ⟨by rw [Pr.out]; rfl, hb2⟩
    · by_cases h2 : k = 2
      · subst h2
        go_wp2
        go_ret2
        exact ⟨by rw [Pr.out]; rfl, hb2⟩
      · by_cases h3 : k = 3
        · subst h3
          go_wp2
          go_ret2
          exact ⟨by rw [Pr.out]; rfl, hb2⟩
        · have pr := Pr.out
          rw [if_neg h1, if_neg h2, if_neg h3] at pr
          have Pr2 := Lib.hid pr
          clear pr Pr
          have e1 : (k == 1) = false := by simpa using h1
          have e2 : (k == 2) = false := by simpa using h2
          have e3 : (k == 3) = false := by simpa using h3
          clear h1 h2 h3
          go_wp2
          go_ret2
          exact ⟨by rw [Pr2.out]; rfl, hb2⟩
  · have pr : partA k a = (mkS [], checkA a) := by unfold partA; rw [if_pos hz]
    have hne : (checkA a != 0) = true := by simpa using hz
    generalize checkA a = z at *
    have Pr := Lib.hid pr
    clear pr hz C0 C1
    go_enter Tryd.func49, Tryd.ntmps49
    go_wp2_with fail
    refine D1.out.mono ?_
    rintro e w1 ⟨rfl, hb1⟩
    go_wp2
    go_ret2
    exact ⟨by rw [Pr.out]; rfl, hb0.trans (hb1.mono hb0.size)⟩
end Go.Proofs.YtokeblpdaomagaaDoor
