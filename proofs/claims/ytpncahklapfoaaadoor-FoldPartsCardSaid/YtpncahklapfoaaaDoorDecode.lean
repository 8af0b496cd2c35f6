/- book.Decode: what it returns. (UNDER WAY) -/
import Derived.Test.YtpncahklapfoaaaDoorRd
import Derived.Test.YtpncahklapfoaaaDoorStMem
import Derived.Outline
import Derived.Deep.CutRange
import Derived.Deep.DeepCutAuto
namespace Go.Proofs.YtpncahklapfoaaaDoor
open Go.RowKit
set_option linter.unusedVariables false

/-- The block of a batch. -/
def BB (W : World) (c : Nat) (u : Int) (v : Value) : Prop := W.heap[c]? = some (.cells #[.int .i64 u, v] 25 (0, 0))
theorem BB.c0 {W : World} {c : Nat} {u : Int} {v : Value} (h : BB W c u v) : W.cell? ⟨c, 0, none⟩ = some (.int .i64 u) := by simp [World.cell?, show W.heap[c]? = _ from h]
theorem BB.c1 {W : World} {c : Nat} {u : Int} {v : Value} (h : BB W c u v) : W.cell? ⟨c, 1, none⟩ = some v := by simp [World.cell?, show W.heap[c]? = _ from h]
theorem BB.f0 {W : World} {c : Nat} {u : Int} {v : Value} (h : BB W c u v) : W.frozen? ⟨c, 0, none⟩ = false := by simp [World.frozen?, show W.heap[c]? = _ from h]
theorem BB.f1 {W : World} {c : Nat} {u : Int} {v : Value} (h : BB W c u v) : W.frozen? ⟨c, 1, none⟩ = false := by simp [World.frozen?, show W.heap[c]? = _ from h]
theorem BB.mv {W W' : World} {b c : Nat} {u : Int} {v : Value} (h : BB W c u v) (hm : Mv b W W') (hne : c ≠ b) : BB W' c u v := (hm.block c (Array.getElem?_eq_some_iff.1 h).1 hne).trans h
theorem RS.alloc {W : World} {c B : Nat} {l : List UInt8} {sh : Bool} (h : RS W c B l sh) (o : Obj) (hB : B ≤ W.heap.size) : RS (W.alloc o) c B l sh := by
  obtain ⟨A, cap, h1, h2⟩ := h
  have hb : Below W.heap.size W (W.alloc o) := (Below.refl _ W).alloc (Nat.le_refl _) o
  exact ⟨A, cap, (hb.block c (Array.getElem?_eq_some_iff.1 h1).1).trans h1, h2.below hb hB⟩
theorem EB.mv {W W' : World} {b c : Nat} {e : Ent} (h : EB W c e) (hm : Mv b W W') (hne : c ≠ b) : EB W' c e := (hm.block c (Array.getElem?_eq_some_iff.1 h).1 hne).trans h
theorem EB.frozen {W : World} {c : Nat} {e : Ent} (h : EB W c e) : W.frozen? ⟨c, 1, none⟩ = false ∧ W.frozen? ⟨c, 4, none⟩ = false ∧ W.frozen? ⟨c, 5, none⟩ = false := by
  simp [World.frozen?, show W.heap[c]? = _ from h]
theorem EB.texts {W : World} {c : Nat} {k u f : Int} {b t s : ByteArray} (h : EB W c ⟨k, b, u, f, t, s⟩) (b' t' s' : ByteArray) : EB (((W.setCell ⟨c, 1, none⟩ (.string b')).setCell ⟨c, 4, none⟩ (.string t')).setCell ⟨c, 5, none⟩ (.string s')) c ⟨k, b', u, f, t', s'⟩ :=
  heap_setCell_at (heap_setCell_at (heap_setCell_at h 1 _) 4 _) 5 _
theorem rdText_len (s : St) : (rdText s).2.1.length ≤ s.1.length := by
  have h1 := rdNum_len 2 s
  have h2 := (rdTake_len (rdNum 2 s).1 (rdNum 2 s).2).1
  exact Nat.le_trans h2 h1
theorem RS.mv {W W' : World} {b c B : Nat} {l : List UInt8} {sh : Bool} (h : RS W c B l sh) (hm : Mv b W W') (hne : c ≠ b) (hB : B ≤ b) : RS W' c B l sh := by
  obtain ⟨A, cap, h1, h2⟩ := h
  exact ⟨A, cap, (hm.block c (Array.getElem?_eq_some_iff.1 h1).1 hne).trans h1, h2.mv hm hB⟩
theorem RS.below {W W' : World} {n c B : Nat} {l : List UInt8} {sh : Bool} (h : RS W c B l sh) (hb : Below n W W') (hc : c < n) (hB : B ≤ n) : RS W' c B l sh := by
  obtain ⟨A, cap, h1, h2⟩ := h
  exact ⟨A, cap, (hb.block c hc).trans h1, h2.below hb hB⟩
theorem rdNum_lt1 (s : St) : (rdNum 1 s).1 < 256 := by
  unfold rdNum
  split
  · simp
  · show numL (s.1.take 1) < _
    have h := numL_lt (s.1.take 1)
    have h2 : 256 ^ (s.1.take 1).length ≤ 256 ^ 1 := Nat.pow_le_pow_right (by decide) (by rw [List.length_take]; omega)
    omega
theorem rdText_small (s : St) : (rdText s).1.length ≤ s.1.length ∧ (rdText s).2.1.length ≤ s.1.length := by
  have h1 := rdNum_len 2 s
  have h2 := rdTake_len (rdNum 2 s).1 (rdNum 2 s).2
  exact ⟨Nat.le_trans h2.2 h1, Nat.le_trans h2.1 h1⟩
theorem rdEnt_small (s : St) : (rdEnt s).1.box.size ≤ s.1.length ∧ (rdEnt s).1.dst.size ≤ s.1.length ∧ (rdEnt s).1.text.size ≤ s.1.length ∧ (rdEnt s).2.1.length ≤ s.1.length := by
  have h1 := rdNum_len 1 s
  have h2 := rdNum_len 1 (rdNum 1 s).2
  have h3 := rdNum_len 3 (rdNum 1 (rdNum 1 s).2).2
  have h4 := rdText_small (rdNum 3 (rdNum 1 (rdNum 1 s).2).2).2
  have h5 := rdText_small (rdText (rdNum 3 (rdNum 1 (rdNum 1 s).2).2).2).2
  have h6 := rdText_small (rdText (rdText (rdNum 3 (rdNum 1 (rdNum 1 s).2).2).2).2).2
  unfold rdEnt
  simp only [mkS_size]
  omega
theorem rdEnts_small : ∀ (n : Nat) (s : St), ∀ e ∈ (rdEnts n s).1, e.box.size ≤ s.1.length ∧ e.dst.size ≤ s.1.length ∧ e.text.size ≤ s.1.length
  | 0, s, e, he => by simp [rdEnts] at he
  | n + 1, s, e, he => by
    unfold rdEnts at he
    by_cases hs : s.2 = true
    · rw [if_pos hs] at he; simp at he
    · rw [if_neg hs] at he
      have h1 := rdEnt_small s
      rcases List.mem_cons.1 he with rfl | he
      · omega
      · have := rdEnts_small n (rdEnt s).2 e he
        omega
/-- What Decode ends in. -/
def DecOk (w : World) (l : List UInt8) (e : Ending) (w' : World) : Prop :=
  ∃ u v, e = .returned (.tuple #[.agg #[.int .i64 u, v], .int .i64 (decR l)]) ∧ Below w.heap.size w w' ∧
    if decR l = 0 then u = (rdNum 1 (l, false)).1 ∧ w'.ownsRow w.heap.size 63 6 v (rdEnts (rdNum 1 (rdNum 1 (l, false)).2).1 (rdNum 1 (rdNum 1 (l, false)).2).2).1.length (entsCells (rdEnts (rdNum 1 (rdNum 1 (l, false)).2).1 (rdNum 1 (rdNum 1 (l, false)).2).2).1)
    else u = 0 ∧ v = .slice none 0 0

set_option maxRecDepth 100000 in
set_option maxHeartbeats 2000000 in
theorem decode_calls (A : Option Addr) (cap : Nat) (l : List UInt8) (m : Int) (w : World) (hA : BS w w.heap.size A cap l) (hl : l.length ≤ 1000000) (hm : w.cell? ⟨0, 0, none⟩ = some (.int .i64 m)) :
    Calls Tryd.prog 13 #[.slice A l.length cap] w fun e w' => DecOk w l e w' := by
  obtain ⟨i0, hi, hz0, hz1, hz2⟩ := info_parts info_ent
  by_cases h1 : 100000 < l.length
  · have hr : decR l = 1 := by unfold decR; rw [if_pos h1]
    have Hr := Lib.hid hr
    clear hr
    go_enter Tryd.func13, Tryd.ntmps13
    go_wp2
    have c0 : (w.alloc (.cells #[.int .i64 0, .slice none 0 0] 25)).cell? ⟨w.heap.size, 0, none⟩ = some (.int .i64 0) := by rw [World.cell?_alloc_at _ _ _ _ rfl]; rfl
    have c1 : (w.alloc (.cells #[.int .i64 0, .slice none 0 0] 25)).cell? ⟨w.heap.size, 1, none⟩ = some (.slice none 0 0) := by rw [World.cell?_alloc_at _ _ _ _ rfl]; rfl
    exact bodyPost_ret (v := .tuple #[.agg #[.int .i64 0, .slice none 0 0], .int .i64 1]) (by simp [results, Tryd.results13, go_sem, c0, c1]) rfl ⟨0, .slice none 0 0, by rw [Hr.out], (Below.refl _ w).alloc (Nat.le_refl _) _, by rw [if_neg (by rw [Hr.out]; decide)]; exact ⟨rfl, rfl⟩⟩
  · have hb1 : Below w.heap.size w ((w.alloc (.cells #[.int .i64 0, .slice none 0 0] 25)).alloc (.cells #[.slice A l.length cap, .bool false] 68)) := ((Below.refl _ w).alloc (Nat.le_refl _) _).alloc (by simp) _
    have hre := World.alloc_heap_new (w.alloc (.cells #[.int .i64 0, .slice none 0 0] 25)) (.cells #[.slice A l.length cap, .bool false] 68)
    rw [show (w.alloc (.cells #[.int .i64 0, .slice none 0 0] 25)).heap.size = w.heap.size + 1 by simp] at hre
    have hbb : BB ((w.alloc (.cells #[.int .i64 0, .slice none 0 0] 25)).alloc (.cells #[.slice A l.length cap, .bool false] 68)) w.heap.size 0 (.slice none 0 0) :=
      (((Below.refl (w.heap.size + 1) _).alloc (by simp) _).block w.heap.size (by omega)).trans (World.alloc_heap_new w (.cells #[.int .i64 0, .slice none 0 0] 25))
    have hrs : RS ((w.alloc (.cells #[.int .i64 0, .slice none 0 0] 25)).alloc (.cells #[.slice A l.length cap, .bool false] 68)) (w.heap.size + 1) w.heap.size l false := ⟨A, cap, hre, hA.below hb1 (Nat.le_refl _)⟩
    have hsz1 : ((w.alloc (.cells #[.int .i64 0, .slice none 0 0] 25)).alloc (.cells #[.slice A l.length cap, .bool false] 68)).heap.size = w.heap.size + 2 := by simp
    go_enter Tryd.func13, Tryd.ntmps13
    go_wp2_with fail
    generalize (w.alloc (.cells #[.int .i64 0, .slice none 0 0] 25)).alloc (.cells #[.slice A l.length cap, .bool false] 68) = w1 at *
    clear hre
    refine (number_calls (w.heap.size + 1) 1 w.heap.size (l, false) w1 (by omega) hrs hl (by decide)).mono ?_
    rintro e w2 ⟨rfl, hr2, hm2⟩
    have hbb2 := hbb.mv hm2 (by omega)
    have hb2 := hb1.trans (hm2.below (by omega) (by omega))
    have hs2 : w.heap.size + 2 ≤ w2.heap.size := by have := hm2.size; omega
    clear hb1 hm2 hbb hrs
    go_wp2_with fail
    have hu := rdNum_lt 1 (l, false) (by decide)
    have hl1 : (rdNum 1 (l, false)).2.1.length ≤ l.length := rdNum_len 1 (l, false)
    obtain ⟨s1, hs1⟩ : ∃ s1, (rdNum 1 (l, false)).2 = s1 := ⟨_, rfl⟩
    obtain ⟨u, hue⟩ : ∃ u, (rdNum 1 (l, false)).1 = u := ⟨_, rfl⟩
    rw [hs1] at hr2 hl1
    rw [hue] at hu ⊢
    have Hs1 := Lib.hid hs1
    have Hue := Lib.hid hue
    clear hs1 hue
    have hd := World.alloc_heap_new w2 (.cells #[.int .i64 u, .slice none 0 0] 25)
    have hal : Below w2.heap.size w2 (w2.alloc (.cells #[.int .i64 u, .slice none 0 0] 25)) := (Below.refl _ w2).alloc (Nat.le_refl _) _
    have hmA : Mv w2.heap.size w2 (w2.alloc (.cells #[.int .i64 u, .slice none 0 0] 25)) := Mv.of_below hal
    have hbb3 := hbb2.mv hmA (by omega)
    have hr3 := hr2.alloc (.cells #[.int .i64 u, .slice none 0 0] 25) (by omega)
    have hb3 := hb2.trans (hal.mono (by omega))
    have hs3 : (w2.alloc (.cells #[.int .i64 u, .slice none 0 0] 25)).heap.size = w2.heap.size + 1 := by simp
    have hd3 : BB (w2.alloc (.cells #[.int .i64 u, .slice none 0 0] 25)) w2.heap.size u (.slice none 0 0) := hd
    generalize w2.alloc (.cells #[.int .i64 u, .slice none 0 0] 25) = w3 at *
    clear hal hmA hr2 hbb2 hb2 hd
    refine (number_calls (w.heap.size + 1) 1 w.heap.size s1 w3 (by omega) hr3 (by omega) (by decide)).mono ?_
    rintro e w4 ⟨rfl, hr4, hm4⟩
    have hbb4 := hbb3.mv hm4 (by omega)
    have hd4 := hd3.mv hm4 (by omega)
    have hb4 := hb3.trans (hm4.below (by omega) (by omega))
    have hs4 : w2.heap.size + 1 ≤ w4.heap.size := by have := hm4.size; omega
    clear hb3 hm4 hbb3 hd3 hr3
    go_wp2_with fail
    have hl4 := rdNum_len 1 s1
    have hml := rdNum_lt1 s1
    obtain ⟨s2, hs2e⟩ : ∃ s2, (rdNum 1 s1).2 = s2 := ⟨_, rfl⟩
    obtain ⟨M, hMe⟩ : ∃ M, (rdNum 1 s1).1 = M := ⟨_, rfl⟩
    rw [hs2e] at hr4 hl4
    rw [hMe] at hml ⊢
    have Hs2 := Lib.hid hs2e
    have HMe := Lib.hid hMe
    have hm4 := cell_later hb4 hm
    clear hs2e hMe
    have hl42 : s2.1.length ≤ 100000 := by omega
    go_loopg [] M (fun kq wr => ∃ (es : List Ent) (s : St) (v : Value), es.length + kq = M ∧ s.1.length ≤ 100000 ∧ Hid (rdEnts M s2 = (es ++ (rdEnts kq s).1, (rdEnts kq s).2)) ∧ RS wr (w.heap.size + 1) w.heap.size s.1 s.2 ∧ BB wr w2.heap.size u v ∧ BB wr w.heap.size 0 (.slice none 0 0) ∧ wr.ownsRow (w2.heap.size + 1) 63 6 v es.length (entsCells es) ∧ Below w.heap.size w wr ∧ w2.heap.size + 1 ≤ wr.heap.size ∧ wr.cell? ⟨0, 0, none⟩ = some (.int .i64 m))
    case atStart => exact ⟨[], s2, _, by simp, by omega, Lib.hid (by simp), hr4, hd4, hbb4, World.ownsRow_nil _ _ _ _, hb4, hs4, hm4⟩
    case round =>
      obtain ⟨es, s, v, hes, hsl, He, hrs, hd, hbb, hrow, hb, hsz, hmm⟩ := hrel
      clear hm4 hl4 hr4 hd4 hbb4 hb4 hs4
      obtain ⟨Av, cv, rfl⟩ := own_sliceE hrow
      have v1 := hd.c1
      have hrs' := hrs
      obtain ⟨Ar, capr, hre, hbs⟩ := hrs'
      have r1 := hre.c1
      have hnn : (es.length : Int) < (M : Int) ∨ ¬ (es.length : Int) < (M : Int) := Decidable.em _
      obtain ⟨sl, ss⟩ := s
      simp only at r1 hre hbs hrs hsl
      by_cases hcont : es.length < M ∧ ss = false
      · obtain ⟨hc1, rfl⟩ := hcont
        have hc2 : (es.length : Int) < (M : Int) := by omega
        clear hnn
        have hlt := rdNum_lt 1 (sl, false) (by decide)
        go_wp2_with fail
        refine (number_calls (w.heap.size + 1) 1 w.heap.size (sl, false) wr (by omega) hrs (by show sl.length ≤ _; omega) (by decide)).mono ?_
        rintro e w5 ⟨rfl, hr5, hm5⟩
        have hl5 : (rdNum 1 (sl, false)).2.1.length ≤ sl.length := rdNum_len 1 (sl, false)
        go_wp2_with fail
        refine (number_calls (w.heap.size + 1) 1 w.heap.size (rdNum 1 (sl, false)).2 w5 (by omega) hr5 (by omega) (by decide)).mono ?_
        rintro e w6 ⟨rfl, hr6, hm6⟩
        have hl6 := rdNum_len 1 (rdNum 1 (sl, false)).2
        go_wp2_with fail
        refine (number_calls (w.heap.size + 1) 3 w.heap.size (rdNum 1 (rdNum 1 (sl, false)).2).2 w6 (by omega) hr6 (by omega) (by decide)).mono ?_
        rintro e w7 ⟨rfl, hr7, hm7⟩
        have hl7 := rdNum_len 3 (rdNum 1 (rdNum 1 (sl, false)).2).2
        have hmA := hm5.trans (hm6.trans hm7)
        have hs7 := hmA.size
        obtain ⟨kd, hkd⟩ : ∃ kd, (rdNum 1 (sl, false)).1 = kd := ⟨_, rfl⟩
        obtain ⟨fl, hfl⟩ : ∃ fl, (rdNum 1 (rdNum 1 (sl, false)).2).1 = fl := ⟨_, rfl⟩
        obtain ⟨ud, hud⟩ : ∃ ud, (rdNum 3 (rdNum 1 (rdNum 1 (sl, false)).2).2).1 = ud := ⟨_, rfl⟩
        obtain ⟨s7, hs7e⟩ : ∃ s7, (rdNum 3 (rdNum 1 (rdNum 1 (sl, false)).2).2).2 = s7 := ⟨_, rfl⟩
        have he7 : rdEnt (sl, false) = (⟨kd, mkS (rdText s7).1, ud, fl, mkS (rdText (rdText s7).2).1, mkS (rdText (rdText (rdText s7).2).2).1⟩, (rdText (rdText (rdText s7).2).2).2) := by
          rw [← hkd, ← hfl, ← hud, ← hs7e]; rfl
        rw [hs7e] at hr7 hl7
        rw [hkd, hfl, hud]
        have He7 := Lib.hid he7
        clear he7 hkd hfl hud hs7e hr5 hr6 hm5 hm6 hm7
        have hX0 : EB (w7.alloc (.cells #[.int .i64 kd, .string ⟨#[]⟩, .int .i64 ud, .int .i64 fl, .string ⟨#[]⟩, .string ⟨#[]⟩] 63)) w7.heap.size ⟨kd, ⟨#[]⟩, ud, fl, ⟨#[]⟩, ⟨#[]⟩⟩ := World.alloc_heap_new w7 _
        have hmB := hmA.alloc (.cells #[.int .i64 kd, .string ⟨#[]⟩, .int .i64 ud, .int .i64 fl, .string ⟨#[]⟩, .string ⟨#[]⟩] 63)
        have hr8 := hr7.alloc (.cells #[.int .i64 kd, .string ⟨#[]⟩, .int .i64 ud, .int .i64 fl, .string ⟨#[]⟩, .string ⟨#[]⟩] 63) (by omega)
        have hs8 : (w7.alloc (.cells #[.int .i64 kd, .string ⟨#[]⟩, .int .i64 ud, .int .i64 fl, .string ⟨#[]⟩, .string ⟨#[]⟩] 63)).heap.size = w7.heap.size + 1 := by simp
        go_wp2_with fail
        generalize w7.alloc (.cells #[.int .i64 kd, .string ⟨#[]⟩, .int .i64 ud, .int .i64 fl, .string ⟨#[]⟩, .string ⟨#[]⟩] 63) = w8 at *
        clear hr7 hmA
        refine (text_calls (w.heap.size + 1) w.heap.size s7 w8 (by omega) hr8 (by omega)).mono ?_
        rintro e w9 ⟨rfl, hr9, hm9⟩
        have hl9 := rdText_len s7
        go_wp2_with fail
        refine (text_calls (w.heap.size + 1) w.heap.size (rdText s7).2 w9 (by omega) hr9 (by omega)).mono ?_
        rintro e w10 ⟨rfl, hr10, hm10⟩
        have hl10 := rdText_len (rdText s7).2
        go_wp2_with fail
        refine (text_calls (w.heap.size + 1) w.heap.size (rdText (rdText s7).2).2 w10 (by omega) hr10 (by omega)).mono ?_
        rintro e w11 ⟨rfl, hr11, hm11⟩
        have hl11 := rdText_len (rdText (rdText s7).2).2
        have hmC := hm9.trans (hm10.trans hm11)
        have hmD := hmB.trans hmC
        have hX := hX0.mv hmC (by omega)
        have hs11 := hmC.size
        clear hr8 hr9 hr10 hm9 hm10 hm11 hX0 hmB hmC
        generalize mkS (rdText s7).1 = bx at *
        generalize mkS (rdText (rdText s7).2).1 = ds at *
        generalize mkS (rdText (rdText (rdText s7).2).2).1 = tx at *
        generalize (rdText (rdText (rdText s7).2).2).2 = s8 at *
        have X := EB.cells hX
        have F := EB.frozen hX
        obtain ⟨x0, x1, x2, x3, x4, x5⟩ := X
        obtain ⟨f1, f4, f5⟩ := F
        go_upto_region 9 with fail
        have hX2 := hX.texts bx ds tx
        have hlt7 : wr.heap.size ≤ w7.heap.size := hs7
        have hmE := ((hmD.setNew hlt7 1 (.string bx)).setNew hlt7 4 (.string ds)).setNew hlt7 5 (.string tx)
        have hmX := (((Mv.refl w7.heap.size w11).set 1 (.string bx)).set 4 (.string ds)).set 5 (.string tx)
        have hr12 := hr11.mv hmX (by omega) (by omega)
        have hs12 : w7.heap.size + 1 ≤ (((w11.setCell ⟨w7.heap.size, 1, none⟩ (.string bx)).setCell ⟨w7.heap.size, 4, none⟩ (.string ds)).setCell ⟨w7.heap.size, 5, none⟩ (.string tx)).heap.size := by simp; omega
        generalize ((w11.setCell ⟨w7.heap.size, 1, none⟩ (.string bx)).setCell ⟨w7.heap.size, 4, none⟩ (.string ds)).setCell ⟨w7.heap.size, 5, none⟩ (.string tx) = w12 at *
        have hd12 := hd.mv hmE (by omega)
        have hbb12 := hbb.mv hmE (by omega)
        have hrow12 := ownsRow_mv hmE (by omega) hrow
        have hb12 := hb.trans (hmE.below (by omega) (by omega))
        clear hmE hmX hmD hr11 hX hd hbb hrow hb hmm hrs hre hbs r1 v1 x0 x1 x2 x3 x4 x5 f1 f4 f5
        have v1 := hd12.c1
        obtain ⟨x0, x1, x2, x3, x4, x5⟩ := EB.cells hX2
        have hnew := new_cells w12 (entCells ⟨kd, bx, ud, fl, ds, tx⟩) 63
        unfold entCells at hnew
        simp only at hnew
        have hbk : ∀ (W : World), (w12.alloc (.cells (entCells ⟨kd, bx, ud, fl, ds, tx⟩).toArray 63)).grownBy W (Value.ownBlock (.slice Av es.length cv)) → BB W w2.heap.size u (.slice Av es.length cv) ∧ BB W w.heap.size 0 (.slice none 0 0) ∧ RS W (w.heap.size + 1) w.heap.size s8.1 s8.2 ∧ Below w.heap.size w W ∧ w2.heap.size + 1 ≤ W.heap.size := fun W hg => by
          have h1 := grown_alloc hg
          have hne : ∀ k, k < w2.heap.size + 1 → some k ≠ Value.ownBlock (.slice Av es.length cv) := fun k hk e => by have := own_base' hrow12 k e.symm; omega
          have hbl : Below (w2.heap.size + 1) w12 W := below_grown h1 hrow12 (by omega)
          exact ⟨(hbl.block _ (by omega)).trans hd12, (hbl.block _ (by omega)).trans hbb12, hr12.below hbl (by omega) (by omega), hb12.trans (hbl.mono (by omega)), by have := hbl.size; omega⟩
        have Hbk := Lib.hid hbk
        clear hbk
        go_wp2_with (at_builtin; refine wpList_append_own_at _ rfl _ _ 23 rfl (w2.heap.size + 1) 63 i0 (.agg #[.int .i64 0, .string ⟨#[]⟩, .int .i64 0, .int .i64 0, .string ⟨#[]⟩, .string ⟨#[]⟩]) 6 72 Tryd.underlying23 hi hz0 hz1 hz2 rfl (by decide) _ _ _ rfl (hrow12.alloc _) ⟨w12.heap.size, 0, none⟩ 1 1 [.int .i64 kd, .string bx, .int .i64 ud, .int .i64 fl, .string ds, .string tx] rfl rfl hnew (by simp [Value.oneCell']) (by unfold maxLen; omega) (by omega) (by simp; omega) ?_; intro v' w13 hown' hgrow _ _; obtain ⟨g1, g2, g3, g4, g5⟩ := Hbk.out w13 hgrow; clear hgrow hnew Hbk; have y0 := g1.c1; have y1 := g1.f1; obtain ⟨Av', cv', rfl⟩ := own_sliceE hown')
        obtain ⟨kq, rfl⟩ : ∃ kq, gk = kq + 1 := ⟨gk - 1, by omega⟩
        go_roundg kq
        case measure => omega
        case rel =>
          have hset : Mv w2.heap.size w13 (w13.setCell ⟨w2.heap.size, 1, none⟩ (.slice Av' (es.length + 1) cv')) := (Mv.refl _ _).set 1 _
          have hb14 := g4.setCell (p := ⟨w2.heap.size, 1, none⟩) (by show w.heap.size ≤ w2.heap.size; omega) (.slice Av' (es.length + 1) cv')
          refine ⟨es ++ [⟨kd, bx, ud, fl, ds, tx⟩], s8, .slice Av' (es.length + 1) cv', by rw [List.length_append]; simp; omega, by omega, ?_, g3.mv hset (by omega) (by omega), heap_setCell_at g1 1 _, g2.mv hset (by omega), ?_, hb14, by simp; omega, cell_later hb14 hm⟩
          · have he := He.out
            have h7 := He7.out
            have h8 : rdEnts (kq + 1) (sl, false) = (⟨kd, bx, ud, fl, ds, tx⟩ :: (rdEnts kq s8).1, (rdEnts kq s8).2) := by
              show (if (sl, false).2 = true then _ else _) = _
              rw [if_neg (by simp), h7]
            rw [h8] at he
            exact Lib.hid (by rw [he, List.append_assoc]; rfl)
          · rw [List.length_append, entsCells_append]
            exact ownsRow_setCell_below hown' (by show w2.heap.size < _; omega) _
      · have hesl : es.length ≤ 256 := by omega
        have hfin : rdEnts M s2 = (es, (sl, ss)) := by
          have he := He.out
          have : rdEnts gk (sl, ss) = ([], (sl, ss)) := by
            cases gk with
            | zero => rfl
            | succ k =>
              have : ss = true := by
                cases ss with
                | true => rfl
                | false => exact absurd ⟨by omega, rfl⟩ hcont
              subst this
              show (if (sl, true).2 = true then _ else _) = _
              rw [if_pos rfl]
          rw [this] at he
          simpa using he
        have hsm := rdEnts_small M s2
        rw [hfin] at hsm
        have hR : decR l = if ss = true then 4 else if 0 < sl.length then 3 else checkB u es := by
          unfold decR
          rw [if_neg h1, Hue.out, Hs1.out, Hs2.out, HMe.out, hfin]
        have hE : (rdEnts (rdNum 1 (rdNum 1 (l, false)).2).1 (rdNum 1 (rdNum 1 (l, false)).2).2).1 = es := by rw [Hs1.out, Hs2.out, HMe.out, hfin]
        have HE := Lib.hid hE
        have Hsm := Lib.hid hsm
        clear hE hsm hfin He hrs
        have r0 := hre.c0
        have k0 := hbb.c0
        have k1 := hbb.c1
        have q0 := hbb.f0
        have q1 := hbb.f1
        have hbz := (hb.setCell (p := ⟨w.heap.size, 0, none⟩) (Nat.le_refl _) (.int .i64 0)).setCell (p := ⟨w.heap.size, 1, none⟩) (Nat.le_refl _) (.slice none 0 0)
        have hbbz : BB ((wr.setCell ⟨w.heap.size, 0, none⟩ (.int .i64 0)).setCell ⟨w.heap.size, 1, none⟩ (.slice none 0 0)) w.heap.size 0 (.slice none 0 0) := heap_setCell_at (heap_setCell_at hbb 0 _) 1 _
        have z0 := hbbz.c0
        have z1 := hbbz.c1
        have Hbz := Lib.hid hbz
        clear hbz hbbz
        have hcase : es.length < M ∧ ss = true ∨ ¬ es.length < M := by
          by_cases h : es.length < M
          · left; refine ⟨h, ?_⟩
            cases ss with
            | true => rfl
            | false => exact absurd ⟨h, rfl⟩ hcont
          · exact .inr h
        clear hcont hnn hes
        rcases hcase with ⟨hlt, rfl⟩ | hge
        · have hlt2 : (es.length : Int) < (M : Int) := by omega
          rw [if_pos rfl] at hR
          have HR := Lib.hid hR
          clear hR
          go_wp2_with fail
          exact bodyPost_ret (v := .tuple #[.agg #[.int .i64 0, .slice none 0 0], .int .i64 4]) (by simp [results, Tryd.results13, go_sem, z0, z1]) rfl ⟨0, .slice none 0 0, by rw [HR.out], Hbz.out, by rw [if_neg (by rw [HR.out]; decide)]; exact ⟨rfl, rfl⟩⟩
        · have hge2 : ¬ (es.length : Int) < (M : Int) := by omega
          cases ss with
          | true =>
            rw [if_pos rfl] at hR
            have HR := Lib.hid hR
            clear hR
            go_wp2_with fail
            exact bodyPost_ret (v := .tuple #[.agg #[.int .i64 0, .slice none 0 0], .int .i64 4]) (by simp [results, Tryd.results13, go_sem, z0, z1]) rfl ⟨0, .slice none 0 0, by rw [HR.out], Hbz.out, by rw [if_neg (by rw [HR.out]; decide)]; exact ⟨rfl, rfl⟩⟩
          | false =>
            rw [if_neg (by simp)] at hR
            by_cases hsl0 : 0 < sl.length
            · rw [if_pos hsl0] at hR
              have HR := Lib.hid hR
              clear hR
              have hs2 : (0 : Int) < (sl.length : Int) := by omega
              go_wp2_with fail
              exact bodyPost_ret (v := .tuple #[.agg #[.int .i64 0, .slice none 0 0], .int .i64 3]) (by simp [results, Tryd.results13, go_sem, z0, z1]) rfl ⟨0, .slice none 0 0, by rw [HR.out], Hbz.out, by rw [if_neg (by rw [HR.out]; decide)]; exact ⟨rfl, rfl⟩⟩
            · rw [if_neg hsl0] at hR
              obtain rfl : sl = [] := List.length_eq_zero_iff.1 (by omega)
              have HR := Lib.hid hR
              have v0 := hd.c0
              have hck := check_book u es Av cv m wr (ownsRow_ents hrow rfl) (fun e he => by have := Hsm.out e he; exact ⟨by omega, by omega, by omega⟩) (by omega) hmm
              have Hck := Lib.hid hck
              clear hck hR hsl0
              go_wp2_with fail
              refine Hck.out.mono ?_
              rintro e w5 ⟨rfl, hb5⟩
              have hd5 : BB w5 w2.heap.size u (.slice Av es.length cv) := (hb5.block _ (by omega)).trans hd
              have hbb5 : BB w5 w.heap.size 0 (.slice none 0 0) := (hb5.block _ (by omega)).trans hbb
              have hb6 := hb.trans (hb5.mono hb.size)
              have hrow5 := hrow.kept (w' := w5) (row := none) ⟨hb5.os, hb5.tape, hb5.output, hb5.size, fun k hk _ => hb5.block k hk⟩ (by cases hv : Value.ownBlock (.slice Av es.length cv) <;> simp)
              clear hrow hd hbb hb hmm hre hbs r0 r1 v0 v1 k0 k1 q0 q1 z0 z1 Hck Hbz hb5
              have v0 := hd5.c0
              have v1 := hd5.c1
              have k0 := hbb5.c0
              have k1 := hbb5.c1
              have q0 := hbb5.f0
              have q1 := hbb5.f1
              by_cases hz : checkB u es = 0
              · have hbz := (hb6.setCell (p := ⟨w.heap.size, 0, none⟩) (Nat.le_refl _) (.int .i64 u)).setCell (p := ⟨w.heap.size, 1, none⟩) (Nat.le_refl _) (.slice Av es.length cv)
                have hbbz : BB ((w5.setCell ⟨w.heap.size, 0, none⟩ (.int .i64 u)).setCell ⟨w.heap.size, 1, none⟩ (.slice Av es.length cv)) w.heap.size u (.slice Av es.length cv) := heap_setCell_at (heap_setCell_at hbb5 0 _) 1 _
                have hrz := ownsRow_setCell_below (ownsRow_setCell_below hrow5 (a := ⟨w.heap.size, 0, none⟩) (by show w.heap.size < _; omega) (.int .i64 u)) (a := ⟨w.heap.size, 1, none⟩) (by show w.heap.size < _; omega) (.slice Av es.length cv)
                have z0 := hbbz.c0
                have z1 := hbbz.c1
                have Hbz := Lib.hid hbz
                have hr0 := HR.out
                rw [hz] at hr0 ⊢
                have HR0 := Lib.hid hr0
                have Hrz := Lib.hid hrz
                clear hbz hbbz hr0 HR hz hrz hrow5
                go_wp2_with fail
                exact bodyPost_ret (v := .tuple #[.agg #[.int .i64 u, .slice Av es.length cv], .int .i64 0]) (by simp [results, Tryd.results13, go_sem, z0, z1]) rfl ⟨u, _, by rw [HR0.out], Hbz.out, by rw [if_pos HR0.out, HE.out, Hue.out]; exact ⟨rfl, Joins.ownsRow_le Hrz.out (by omega)⟩⟩
              · have hbz := (hb6.setCell (p := ⟨w.heap.size, 0, none⟩) (Nat.le_refl _) (.int .i64 0)).setCell (p := ⟨w.heap.size, 1, none⟩) (Nat.le_refl _) (.slice none 0 0)
                have hbbz : BB ((w5.setCell ⟨w.heap.size, 0, none⟩ (.int .i64 0)).setCell ⟨w.heap.size, 1, none⟩ (.slice none 0 0)) w.heap.size 0 (.slice none 0 0) := heap_setCell_at (heap_setCell_at hbb5 0 _) 1 _
                have z0 := hbbz.c0
                have z1 := hbbz.c1
                have Hbz := Lib.hid hbz
                have hne : (checkB u es != 0) = true := by simpa using hz
                generalize checkB u es = cb at *
                clear hbz hbbz hrow5
                have Hz := Lib.hid hz
                clear hz
                go_wp2_with fail
                exact bodyPost_ret (v := .tuple #[.agg #[.int .i64 0, .slice none 0 0], .int .i64 cb]) (by simp [results, Tryd.results13, go_sem, z0, z1]) rfl ⟨0, .slice none 0 0, by rw [HR.out], Hbz.out, by rw [if_neg (by rw [HR.out]; exact Hz.out)]; exact ⟨rfl, rfl⟩⟩
end Go.Proofs.YtpncahklapfoaaaDoor
