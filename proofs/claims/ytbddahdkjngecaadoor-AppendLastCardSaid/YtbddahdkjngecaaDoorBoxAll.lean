/- box.All and box.Apply: what they answer. -/
import Derived.Test.YtbddahdkjngecaaDoorBoxApp2
namespace Go.Proofs.YtbddahdkjngecaaDoor
open Go.RowKit
set_option linter.unusedVariables false

/-- What All ends in: the error, and a state in memory that the call made. -/
def AllOk (w : World) (r : Int × StS) (e : Ending) (w' : World) : Prop :=
  ∃ v, e = .returned (.tuple #[v, .int .i64 r.1]) ∧ Below w.heap.size w w' ∧ if r.1 = 0 then ∃ vb vs vm p, v = .agg #[vb, vs] ∧ OwnSt w' w.heap.size p r.2 vb vs vm else v = .agg #[.slice none 0 0, .slice none 0 0]
theorem allR_eq (s : StS) (l : List Ent) (h : checkR s = 0) (hl : ¬ 10 < l.length) : (allR s l).1 = (goR s l).1 ∧ ((goR s l).1 = 0 → allR s l = goR s l) := by
  unfold allR
  rw [if_neg (by rw [h]; simp), if_neg hl]
  by_cases hz : (goR s l).1 ≠ 0
  · rw [if_pos hz]; exact ⟨rfl, fun h => absurd h hz⟩
  · rw [if_neg hz]; exact ⟨rfl, fun _ => rfl⟩
theorem goR_cons (s : StS) (x : Ent) (r : List Ent) : goR s (x :: r) = if formR x ≠ 0 then (formR x, s) else if (applyR s x).1 ≠ 0 then applyR s x else goR (applyR s x).2 r := rfl
set_option maxRecDepth 100000 in
set_option maxHeartbeats 4000000 in
theorem all_calls (s : StS) (l : List Ent) (A A2 A3 : Option Addr) (c c2 c3 : Nat) (m : Int) (w : World) (hA : StAt w A c A2 c2 s) (hok : OkC s) (hl : EsAt w A3 l) (hsm : ∀ e ∈ l, SmE e) (hll : l.length ≤ 1000000) (hm : w.cell? ⟨0, 0, none⟩ = some (.int .i64 m)) :
    Calls Tryd.prog 17 #[.agg #[.slice A s.boxes.length c, .slice A2 s.spool.length c2], .slice A3 l.length c3] w fun e w' => AllOk w (allR s l) e w' := by
  have hb1 : Below w.heap.size w ((w.alloc (.cells #[.slice A s.boxes.length c, .slice A2 s.spool.length c2] 28)).alloc (.cells #[.slice none 0 0, .slice none 0 0] 28)) := ((Below.refl _ w).alloc (Nat.le_refl _) _).alloc (by simp) _
  have hX := (Bk.new w [.slice A s.boxes.length c, .slice A2 s.spool.length c2] 28).alloc (.cells #[.slice none 0 0, .slice none 0 0] 28)
  have hR := Bk.new (w.alloc (.cells #[.slice A s.boxes.length c, .slice A2 s.spool.length c2] 28)) [.slice none 0 0, .slice none 0 0] 28
  rw [show (w.alloc (.cells #[.slice A s.boxes.length c, .slice A2 s.spool.length c2] 28)).heap.size = w.heap.size + 1 by simp] at hR
  have hs1 : w.heap.size + 2 ≤ ((w.alloc (.cells #[.slice A s.boxes.length c, .slice A2 s.spool.length c2] 28)).alloc (.cells #[.slice none 0 0, .slice none 0 0] 28)).heap.size := by simp
  have hck := checkS_calls s A A2 c c2 m _ (hA.later hb1) hok (cell_later hb1 hm)
  have x0 := hX.cell 0 _ rfl
  have x1 := hX.cell 1 _ rfl
  have Hck := Lib.hid hck
  have HA := Lib.hid hA
  have Hl := Lib.hid hl
  have Hm := Lib.hid hm
  have Hsm := Lib.hid hsm
  have hown := fun W (hW : StAt W A c A2 c2 s) (ho : OkS s) => own_calls s A A2 c c2 W hW (by have := ho.nb; omega) (by have := ho.ns; omega) (fun b hb => by have := (ho.nm b hb).1; omega)
  have Hown := Lib.hid hown
  have Hall := Lib.hid (allR_eq s l)
  have hr0 : checkR s ≠ 0 → allR s l = (checkR s, noneS) := fun h => by unfold allR; rw [if_pos h]
  have hr1 : checkR s = 0 → 10 < l.length → allR s l = (1, noneS) := fun h h2 => by unfold allR; rw [if_neg (by rw [h]; simp), if_pos h2]
  have hcs := check_ok s
  have Hcs := Lib.hid hcs
  have Hr0 := Lib.hid hr0
  have Hr1 := Lib.hid hr1
  clear hck hA hl hm hsm hown hr0 hr1 hcs
  go_enter Tryd.func17, Tryd.ntmps17
  go_wp2_with fail
  generalize (w.alloc (.cells #[.slice A s.boxes.length c, .slice A2 s.spool.length c2] 28)).alloc (.cells #[.slice none 0 0, .slice none 0 0] 28) = w1 at *
  refine Hck.out.mono ?_
  rintro e w2 ⟨rfl, hb2⟩
  have hX2 := hX.later hb2
  have hR2 := hR.later hb2
  have hb3 := hb1.trans (hb2.mono hb1.size)
  have hs2 : w.heap.size + 2 ≤ w2.heap.size := Nat.le_trans hs1 hb2.size
  clear Hck hX hR hb1 hb2 x0 x1 hs1
  have r0 := hR2.cell 0 _ rfl
  have r1 := hR2.cell 1 _ rfl
  have g0 := hR2.frozen 0
  have g1 := hR2.frozen 1
  have hZ := (hR2.set 0 (.slice none 0 0)).set 1 (.slice none 0 0)
  have z0 := hZ.cell 0 _ rfl
  have z1 := hZ.cell 1 _ rfl
  have hbz := (hb3.setCell (p := ⟨w.heap.size + 1, 0, none⟩) (by show w.heap.size ≤ w.heap.size + 1; omega) (.slice none 0 0)).setCell (p := ⟨w.heap.size + 1, 1, none⟩) (by show w.heap.size ≤ w.heap.size + 1; omega) (.slice none 0 0)
  have Hbz := Lib.hid hbz
  clear hZ hbz
  by_cases hz : checkR s = 0
  · by_cases h10 : 10 < l.length
    · have hr := Hr1.out hz h10
      have d10 : (10 : Int) < (l.length : Int) := by omega
      have Hr := Lib.hid hr
      rw [hz]
      clear hr Hr0 Hr1 hz
      go_wp2_with fail
      exact bodyPost_ret (v := .tuple #[.agg #[.slice none 0 0, .slice none 0 0], .int .i64 1]) (by simp [results, Tryd.results17, go_sem, z0, z1]) rfl ⟨_, by rw [Hr.out], Hbz.out, by rw [Hr.out, if_neg (by decide)]⟩
    · have d10 : ¬ (10 : Int) < (l.length : Int) := by omega
      have ho := Hcs.out hz
      have hall := Hall.out hz h10
      have how := Hown.out w2 (HA.out.later hb3) ho
      have How := Lib.hid how
      have Hallr := Lib.hid hall
      have Hinv := Lib.hid ho.inv
      have x0 := hX2.cell 0 _ rfl
      have x1 := hX2.cell 1 _ rfl
      rw [hz]
      clear hz ho hall how Hr0 Hr1 Hcs Hown Hall z0 z1 Hbz
      go_wp2_with fail
      refine How.out.mono ?_
      rintro e w3 ⟨vb, vs, vm, p0, rfl, hO, hb4⟩
      have hR3 := hR2.later hb4
      have hb5 := hb3.trans (hb4.mono hb3.size)
      have hs3 := hb4.size
      clear How hX2 hR2 hb4 x0 x1 r0 r1 g0 g1 hb3
      -- the state is boxed
      obtain ⟨Ab, cb, As, cs, rfl, rfl⟩ := hO.slices
      have hbA : Below w3.heap.size w3 (w3.alloc (.cells #[.slice Ab s.boxes.length cb, .slice As s.spool.length cs] 28)) := (Below.refl _ w3).alloc (Nat.le_refl _) _
      have hO2 := hO.rebox hbA (Bk.new w3 [.slice Ab s.boxes.length cb, .slice As s.spool.length cs] 28) (by omega)
      have hR4 := hR3.later hbA
      have hb6 := hb5.trans (hbA.mono hb5.size)
      have hpl : w2.heap.size ≤ w3.heap.size := hs3
      clear hO hR3 hb5
      go_wp2_with fail
      generalize w3.alloc (.cells #[.slice Ab s.boxes.length cb, .slice As s.spool.length cs] 28) = w4 at *
      generalize w3.heap.size = p at *
      clear hbA hs3
      have Hb6 := Lib.hid hb6
      have hB2 : w.heap.size + 1 < w2.heap.size := by omega
      generalize w2.heap.size = B2 at *
      clear hb6 hs2
      go_loopw [26] (fun i wr => ∃ (k : Nat) (st : StS) (vb vs : Value) (vm : List Value), k ≤ l.length ∧ i = .int .i64 k ∧ Hid (goR s l = goR st (l.drop k)) ∧ Hid (InvS st) ∧ OwnSt wr B2 p st vb vs vm ∧ Bk wr (w.heap.size + 1) [.slice none 0 0, .slice none 0 0] 28 ∧ Hid (Below w.heap.size w wr)) (fun i _ => l.length - (intOf i).toNat)
      case atStart => exact ⟨0, s, _, _, vm, Nat.zero_le _, rfl, Lib.hid rfl, Hinv, hO2, hR4, Hb6⟩
      case round =>
        obtain ⟨k, st, vb, vs, vm, hk, rfl, Hgo, Hi, hO, hR, Hb⟩ := hrel
        clear hO2 hR4 Hb6 Hinv
        have hR' := hR
        by_cases hlt : k < l.length
        · obtain ⟨g, off, rfl, c0, c1, c2', c3', c4, c5⟩ := Hl.out.later Hb.out k hlt
          have hdr : l.drop k = l[k] :: l.drop (k + 1) := List.drop_eq_getElem_cons hlt
          have hse := Hsm.out l[k] (List.getElem_mem hlt)
          have hgo := Hgo.out
          rw [hdr, goR_cons] at hgo
          have hk0 : (0 : Int) ≤ (k : Int) := by omega
          have hkn : (k : Int) < (l.length : Int) := by omega
          generalize l[k] = x at *
          have hb4 : Below wr.heap.size wr (wr.alloc (.cells (entCells x).toArray 31)) := (Below.refl _ wr).alloc (Nat.le_refl _) _
          have hE : EB (wr.alloc (.cells (entCells x).toArray 31)) wr.heap.size x := World.alloc_heap_new wr _
          have hb5 := Hb.out.trans (hb4.mono Hb.out.size)
          obtain ⟨s1, s2, s3⟩ := hse
          have hfo := form_calls x m (wr.alloc (.cells (entCells x).toArray 31)) (by omega) (by omega) (by omega) (cell_later hb5 Hm.out)
          have hO4 := hO.later hb4
          have hR4 := hR.later hb4
          have Hfo := Lib.hid hfo
          have Hb5 := Lib.hid hb5
          have Hgo2 := Lib.hid hgo
          have hO4s := hO4.lt
          have happ := fun W (hW : OwnSt W B2 p st vb vs vm) (hf : formR x = 0) => apply_calls st x B2 p vb vs vm W hW Hi.out hf
          have hinv2 := fun (hf : formR x = 0) => inv_apply Hi.out x hf
          have Happ := Lib.hid happ
          have Hin2 := Lib.hid hinv2
          unfold entCells at hE Hfo Hb5 hO4 hR4
          unfold entVal at Hfo Happ
          clear hfo hb5 hdr hb4 hO hR hR' Hgo Hb hgo happ hinv2 hO4s
          go_wp2_with fail
          generalize wr.alloc (.cells [Value.int .i64 x.kind, .string x.box, .int .i64 x.uid, .int .i64 x.flags, .string x.dst, .string x.text].toArray 31) = w5 at *
          refine Hfo.out.mono ?_
          rintro e w6 ⟨rfl, hb6⟩
          have hE6 : EB w6 wr.heap.size x := (hb6.block _ (Array.getElem?_eq_some_iff.1 hE).1).trans hE
          have hO6 := hO4.later hb6
          have hR6 := hR4.later hb6
          have Hb6 := Lib.hid (Hb5.out.trans (hb6.mono Hb5.out.size))
          have r0 := hR6.cell 0 _ rfl
          have r1 := hR6.cell 1 _ rfl
          have g0 := hR6.frozen 0
          have g1 := hR6.frozen 1
          clear Hfo hb6 hE hO4 hR4 Hb5 c0 c1 c2' c3' c4 c5
          by_cases hf : formR x = 0
          · have happ := Happ.out w6 hO6 hf
            have Happ2 := Lib.hid happ
            have hgo := Hgo2.out
            rw [if_neg (by rw [hf]; simp)] at hgo
            have Hgo3 := Lib.hid hgo
            have Hin3 := Lib.hid (Hin2.out hf)
            rw [hf]
            obtain ⟨x0, x1, x2, x3, x4, x5⟩ := EB.cells hE6
            clear happ hgo Hgo2 Hin2 Happ hf
            go_wp2_with fail
            refine Happ2.out.mono ?_
            rintro e w7 ⟨rfl, vb', vs', vm', hO7, hb7⟩
            have hR7 := hR6.below hb7 (by omega)
            have hBw : B2 ≤ w6.heap.size := by have := hO6.pB; have := hO6.lt; omega
            have Hb7 := Lib.hid (Hb6.out.trans (hb7.mono (by omega)))
            have hgo := Hgo3.out
            clear Happ2 hO6 hR6 hb7 hE6 x0 x1 x2 x3 x4 x5 r0 r1 g0 g1 Hgo3 Hb6
            by_cases ha : (applyR st x).1 = 0
            · rw [if_neg (by rw [ha]; simp)] at hgo
              have Hgo4 := Lib.hid hgo
              rw [ha]
              clear hgo ha
              go_wp2_with fail
              go_roundw
              case rel => exact ⟨k + 1, _, vb', vs', vm', by omega, by go_num, Hgo4, Hin3, hO7, hR7, Hb7⟩
              case measure => simp [intOf]; omega
            · rw [if_pos ha] at hgo
              have hr := Hallr.out.1
              rw [hgo] at hr
              have Hr := Lib.hid hr
              have Ha := Lib.hid ha
              have hne : ((applyR st x).1 != 0) = true := by simpa using ha
              have r0 := hR7.cell 0 _ rfl
              have r1 := hR7.cell 1 _ rfl
              have g0 := hR7.frozen 0
              have g1 := hR7.frozen 1
              have hZ := (hR7.set 0 (.slice none 0 0)).set 1 (.slice none 0 0)
              have z0 := hZ.cell 0 _ rfl
              have z1 := hZ.cell 1 _ rfl
              have hbz := (Hb7.out.setCell (p := ⟨w.heap.size + 1, 0, none⟩) (by show w.heap.size ≤ w.heap.size + 1; omega) (.slice none 0 0)).setCell (p := ⟨w.heap.size + 1, 1, none⟩) (by show w.heap.size ≤ w.heap.size + 1; omega) (.slice none 0 0)
              have Hbz := Lib.hid hbz
              generalize (applyR st x).1 = q at *
              clear hgo hr ha hZ hbz hR7 hO7
              go_wp2_with fail
              exact bodyPost_ret (v := .tuple #[.agg #[.slice none 0 0, .slice none 0 0], .int .i64 q]) (by simp [results, Tryd.results17, go_sem, z0, z1]) rfl ⟨_, by rw [Hr.out], Hbz.out, by rw [Hr.out, if_neg Ha.out]⟩
          · have hgo := Hgo2.out
            rw [if_pos hf] at hgo
            have hr := Hallr.out.1
            rw [hgo] at hr
            have hr2 : (allR s l).1 = formR x := hr
            have Hr := Lib.hid hr2
            have Hf := Lib.hid hf
            have hne : (formR x != 0) = true := by simpa using hf
            have hZ := (hR6.set 0 (.slice none 0 0)).set 1 (.slice none 0 0)
            have z0 := hZ.cell 0 _ rfl
            have z1 := hZ.cell 1 _ rfl
            have hbz := (Hb6.out.setCell (p := ⟨w.heap.size + 1, 0, none⟩) (by show w.heap.size ≤ w.heap.size + 1; omega) (.slice none 0 0)).setCell (p := ⟨w.heap.size + 1, 1, none⟩) (by show w.heap.size ≤ w.heap.size + 1; omega) (.slice none 0 0)
            have Hbz := Lib.hid hbz
            generalize formR x = q at *
            clear hgo hr hr2 hf hZ hbz hR6 hO6 Hgo2 Hin2 Happ
            go_wp2_with fail
            exact bodyPost_ret (v := .tuple #[.agg #[.slice none 0 0, .slice none 0 0], .int .i64 q]) (by simp [results, Tryd.results17, go_sem, z0, z1]) rfl ⟨_, by rw [Hr.out], Hbz.out, by rw [Hr.out, if_neg Hf.out]⟩
        · obtain rfl : k = l.length := by omega
          have hgo := Hgo.out
          rw [List.drop_length] at hgo
          have hgo2 : goR s l = (0, st) := hgo
          have hr := Hallr.out.2 (by rw [hgo2])
          rw [hgo2] at hr
          obtain ⟨Ab, cb, As, cs, rfl, rfl⟩ := hO.slices
          have hinv := Hi.out
          have how := own_calls st Ab As cb cs wr (hO.at rfl rfl) (by have := hinv.nb; omega) (by have := hinv.ns; omega) (fun b hb => by have := (hinv.nm b hb).1; omega)
          have How := Lib.hid how
          have Hr := Lib.hid hr
          have e0 := hO.c0
          have e1 := hO.c1
          have hpl2 := hO.lt
          have hpB := hO.pB
          clear hgo hgo2 hr hinv how hO Hgo hR'
          go_wp2_with fail
          refine How.out.mono ?_
          rintro e w5 ⟨vb', vs', vm', p', rfl, hO5, hb5⟩
          have hR5 := hR.later hb5
          have Hb5 := Lib.hid (Hb.out.trans (hb5.mono Hb.out.size))
          obtain ⟨Ac, cc, At', ct, rfl, rfl⟩ := hO5.slices
          have g0 := hR5.frozen 0
          have g1 := hR5.frozen 1
          have r0 := hR5.cell 0 _ rfl
          have r1 := hR5.cell 1 _ rfl
          have hZ := (hR5.set 0 (.slice Ac st.boxes.length cc)).set 1 (.slice At' st.spool.length ct)
          have z0 := hZ.cell 0 _ rfl
          have z1 := hZ.cell 1 _ rfl
          have hbz := (Hb5.out.setCell (p := ⟨w.heap.size + 1, 0, none⟩) (by show w.heap.size ≤ w.heap.size + 1; omega) (.slice Ac st.boxes.length cc)).setCell (p := ⟨w.heap.size + 1, 1, none⟩) (by show w.heap.size ≤ w.heap.size + 1; omega) (.slice At' st.spool.length ct)
          have hOz := ((hO5.setOther (w.heap.size + 1) 0 (.slice Ac st.boxes.length cc) (by omega)).setOther (w.heap.size + 1) 1 (.slice At' st.spool.length ct) (by omega)).mono (B' := w.heap.size) (by omega)
          have Hbz := Lib.hid hbz
          have HOz := Lib.hid hOz
          clear How hZ hbz hOz hO5 hR5 hR hb5 e0 e1 Hb5
          go_wp2_with fail
          exact bodyPost_ret (v := .tuple #[.agg #[.slice Ac st.boxes.length cc, .slice At' st.spool.length ct], .int .i64 0]) (by simp [results, Tryd.results17, go_sem, z0, z1]) rfl ⟨_, by rw [Hr.out], Hbz.out, by rw [Hr.out, if_pos rfl]; exact ⟨_, _, _, _, rfl, HOz.out⟩⟩
  · have hr := Hr0.out hz
    have hne : (checkR s != 0) = true := by simpa using hz
    have Hr := Lib.hid hr
    have Hz := Lib.hid hz
    generalize checkR s = z at *
    clear hr Hr0 Hr1 hz
    go_wp2_with fail
    exact bodyPost_ret (v := .tuple #[.agg #[.slice none 0 0, .slice none 0 0], .int .i64 z]) (by simp [results, Tryd.results17, go_sem, z0, z1]) rfl ⟨_, by rw [Hr.out], Hbz.out, by rw [Hr.out, if_neg Hz.out]⟩
end Go.Proofs.YtbddahdkjngecaaDoor
