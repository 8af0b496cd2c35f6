/- lmtp.rest and lmtp.address: what they return. -/
import Derived.Test.YtokeblpdaomagaaDoorLmMem
import Derived.Test.YtokeblpdaomagaaDoorGlobMatch
import Derived.Test.YtokeblpdaomagaaDoorWhoPart
namespace Go.Proofs.YtokeblpdaomagaaDoor
open Go.RowKit
set_option linter.unusedVariables false

set_option maxRecDepth 100000 in
set_option maxHeartbeats 1000000 in
theorem rest_calls (line word : ByteArray) (w : World) (hl : line.size ≤ 2000) (hw : word.size ≤ 100) :
    Calls Tryd.prog 24 #[.string line, .string word] w fun e w' => e = .returned (.tuple #[.string ((restR line word).getD ⟨#[]⟩), .bool (restR line word).isSome]) ∧ Below w.heap.size w w' := by
  by_cases h1 : line.size < word.size
  · have hr : restR line word = none := by unfold restR; rw [if_pos h1]
    have Hr := Lib.hid hr
    have h1' : (line.size : Int) < (word.size : Int) := by omega
    clear hr
    go_enter Tryd.func24, Tryd.ntmps24
    go_wp2_with fail
    go_ret2
    exact ⟨by rw [Hr.out]; rfl, Below.refl _ _⟩
  · have h1' : ¬ (line.size : Int) < (word.size : Int) := by omega
    have hex : (line.extract 0 word.size).size ≤ 2000 := by rw [ByteArray.size_extract]; omega
    have hmt := fun W => match_is (line.extract 0 word.size) word W hex hw
    have hr : restR line word = if ((foldB (line.extract 0 word.size)).toList == (foldB word).toList) = true then some (line.extract word.size line.size) else none := by unfold restR; rw [if_neg h1]
    generalize ((foldB (line.extract 0 word.size)).toList == (foldB word).toList) = b at *
    have Hr := Lib.hid hr
    have Hmt := Lib.hid hmt
    have hn0 : (0 : Int) ≤ (word.size : Int) := by omega
    have hn1 : (word.size : Int) ≤ (line.size : Int) := by omega
    clear hr hmt hex
    go_enter Tryd.func24, Tryd.ntmps24
    go_wp2_with fail
    refine (Hmt.out _).mono ?_
    rintro e w1 ⟨rfl, hb1⟩
    cases b with
    | true =>
      go_wp2_with fail
      go_ret2
      exact ⟨by rw [Hr.out]; rfl, hb1⟩
    | false =>
      go_wp2_with fail
      go_ret2
      exact ⟨by rw [Hr.out]; rfl, hb1⟩
set_option maxRecDepth 100000 in
set_option maxHeartbeats 1000000 in
theorem lmaddr_calls (s : ByteArray) (m : Int) (w : World) (hs : s.size ≤ 2000) (hm : w.cell? ⟨0, 0, none⟩ = some (.int .i64 m)) :
    Calls Tryd.prog 35 #[.string s] w fun e w' => e = .returned (.tuple #[.agg #[.string (addrR s).1.loc, .string (addrR s).1.dom], .bool (addrR s).2]) ∧ Below w.heap.size w w' := by
  have hbA : Below w.heap.size w (w.alloc (.cells #[.string ⟨#[]⟩, .string ⟨#[]⟩] 28)) := (Below.refl _ w).alloc (Nat.le_refl _) _
  have hR := Bk.new w [.string ⟨#[]⟩, .string ⟨#[]⟩] 28
  have hls := fun R hR => list_calls s m _ hs (cell_later hbA hm) R hR
  have hm1 := cell_later hbA hm
  have Hls := Lib.hid hls
  clear hls hm
  go_enter Tryd.func35, Tryd.ntmps35
  go_wp2_with fail
  generalize w.alloc (.cells #[.string ⟨#[]⟩, .string ⟨#[]⟩] 28) = w1 at *
  obtain ⟨R, hRR⟩ : ∃ R, listL (s.size + 1) (s.size + 1) (bs s) = R := ⟨_, rfl⟩
  refine (Hls.out R hRR).mono ?_
  intro e w2 h
  obtain ⟨v, err, rfl, hb2, hR'⟩ := h
  have hb3 := btr hbA hb2
  have hR2 := hR.later hb2
  have hm2 := cell_later hb2 hm1
  have r0 := hR2.cell 0 _ rfl
  have r1 := hR2.cell 1 _ rfl
  have f0 := hR2.frozen 0
  have f1 := hR2.frozen 1
  clear hR hbA Hls hm1 hb2
  -- what is no address
  have hbad : ∀ (hx : (listL (s.size + 1) (s.size + 1) (bs s)) = R), (∀ a, R ≠ some [a]) → (addrR s).1 = zeroA ∧ (addrR s).2 = false := fun hx hn => by
    unfold addrR
    rw [hx]
    split
    · exact absurd rfl (hn _)
    · exact ⟨rfl, rfl⟩
  have hZ := (hR2.set 0 (.string ⟨#[]⟩)).set 1 (.string ⟨#[]⟩)
  have z0 := hZ.cell 0 _ rfl
  have z1 := hZ.cell 1 _ rfl
  have hbz := (hb3.setCell (p := ⟨w.heap.size, 0, none⟩) (Nat.le_refl _) (.string ⟨#[]⟩)).setCell (p := ⟨w.heap.size, 1, none⟩) (Nat.le_refl _) (.string ⟨#[]⟩)
  cases R with
  | none =>
    obtain ⟨rfl, rfl⟩ := hR'
    obtain ⟨e1, e2⟩ := hbad hRR (fun a h => by cases h)
    have E1 := Lib.hid e1
    have E2 := Lib.hid e2
    have Hbz := Lib.hid hbz
    clear hbad hZ hbz e1 e2 hRR hR2 hb3 hm2
    go_wp2_with fail
    exact bodyPost_ret (v := .tuple #[.agg #[.string ⟨#[]⟩, .string ⟨#[]⟩], .bool false]) (by simp [results, Tryd.results35, go_sem, z0, z1]) rfl ⟨by rw [E1.out, E2.out]; rfl, Hbz.out⟩
  | some l =>
    simp only at hR'
    by_cases h20 : 20 < l.length
    · rw [if_pos h20] at hR'
      obtain ⟨rfl, rfl⟩ := hR'
      obtain ⟨e1, e2⟩ := hbad hRR (fun a h => by obtain rfl := Option.some.inj h; simp at h20)
      have E1 := Lib.hid e1
      have E2 := Lib.hid e2
      have Hbz := Lib.hid hbz
      clear hbad hZ hbz e1 e2 hRR hR2 hb3 hm2
      go_wp2_with fail
      exact bodyPost_ret (v := .tuple #[.agg #[.string ⟨#[]⟩, .string ⟨#[]⟩], .bool false]) (by simp [results, Tryd.results35, go_sem, z0, z1]) rfl ⟨by rw [E1.out, E2.out]; rfl, Hbz.out⟩
    · rw [if_neg h20] at hR'
      obtain ⟨rfl, hrow⟩ := hR'
      obtain ⟨Al, cl, rfl⟩ := own_sliceA hrow
      by_cases hl1 : l.length = 1
      · obtain ⟨a, rfl⟩ : ∃ a, l = [a] := by
          match l, hl1 with
          | [a], _ => exact ⟨a, rfl⟩
        have hok := listL_ok _ _ _ _ hRR a (by simp)
        have hsz := checkA_size hok
        obtain ⟨gl, ol, e1, c0, c1⟩ := adrs_of_own hrow rfl 0 a rfl
        obtain rfl := e1
        have hpt := part_calls 1 a m w2 (by omega) (by omega) hm2
        have hpa : partA 1 a = (adrT a, 0) := by
          unfold adrT partA
          rw [if_neg (by rw [hok]; simp)]
          rfl
        rw [hpa] at hpt
        have hts : (adrT a).size ≤ 100 := by
          unfold adrT partA
          rw [if_neg (by rw [hok]; simp), if_pos rfl]
          simp only [ByteArray.size_append]
          have : (mkS [64]).size = 1 := rfl
          omega
        have hra : addrR s = (a, s.toList == ((⟨#[60]⟩ : ByteArray) ++ adrT a ++ ⟨#[62]⟩).toList) := by unfold addrR; rw [hRR]
        generalize adrT a = T at *
        generalize hq : (s.toList == ((⟨#[60]⟩ : ByteArray) ++ T ++ ⟨#[62]⟩).toList) = q at *
        have Hra := Lib.hid hra
        have Hpt := Lib.hid hpt
        have HR2 := Lib.hid hR2
        have Hb3 := Lib.hid hb3
        have Hq := Lib.hid hq
        simp only [Nat.zero_mul, Nat.add_zero] at c0 c1
        clear hbad hZ hbz hRR hR2 hrow hpt hpa hra hb3 hm2 z0 z1 hok hq
        obtain ⟨al, ad⟩ := a
        simp only at c0 c1 Hra Hpt
        go_wp2_with fail
        refine Hpt.out.mono ?_
        rintro e w3 ⟨rfl, hb4⟩
        have c0' := cell_later hb4 c0
        have c1' := cell_later hb4 c1
        have hR3 := HR2.out.later hb4
        have r0' := hR3.cell 0 _ rfl
        have r1' := hR3.cell 1 _ rfl
        have f0' := hR3.frozen 0
        have f1' := hR3.frozen 1
        have hZ := (hR3.set 0 (.string al)).set 1 (.string ad)
        have z0 := hZ.cell 0 _ rfl
        have z1 := hZ.cell 1 _ rfl
        have hbz := ((btr Hb3.out hb4).setCell (p := ⟨w.heap.size, 0, none⟩) (Nat.le_refl _) (.string al)).setCell (p := ⟨w.heap.size, 1, none⟩) (Nat.le_refl _) (.string ad)
        have Hbz := Lib.hid hbz
        clear hZ hbz hR3 hb4 r0 r1 f0 f1 c0 c1
        go_wp2_with fail
        exact bodyPost_ret (v := .tuple #[.agg #[.string al, .string ad], .bool q]) (by simp [results, Tryd.results35, go_sem, z0, z1, Hq.out]) rfl ⟨by rw [Hra.out], Hbz.out⟩
      · obtain ⟨e1, e2⟩ := hbad hRR (fun a h => by obtain rfl := Option.some.inj h; simp at hl1)
        have E1 := Lib.hid e1
        have E2 := Lib.hid e2
        have Hbz := Lib.hid hbz
        have hl1' : ((l.length : Int) == 1) = false := by rw [beq_eq_false_iff_ne]; omega
        clear hbad hZ hbz e1 e2 hRR hR2 hb3 hm2 hrow
        go_wp2_with fail
        exact bodyPost_ret (v := .tuple #[.agg #[.string ⟨#[]⟩, .string ⟨#[]⟩], .bool false]) (by simp [results, Tryd.results35, go_sem, z0, z1]) rfl ⟨by rw [E1.out, E2.out]; rfl, Hbz.out⟩
end Go.Proofs.YtokeblpdaomagaaDoor
