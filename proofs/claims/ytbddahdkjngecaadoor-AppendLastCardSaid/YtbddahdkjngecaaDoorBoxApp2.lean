/- box.apply: flags, copies, and the whole. -/
import Derived.Test.YtbddahdkjngecaaDoorBoxApp
import Derived.Test.YtbddahdkjngecaaDoorFormOk
namespace Go.Proofs.YtbddahdkjngecaaDoor
open Go.RowKit
attribute [local go_sem ↓] Go.wp_at_zero Go.wp_at_succ
set_option linter.unusedVariables false

theorem applyR_nomail (s : StS) (x : Ent) (h6 : x.kind ≠ 6) (h1 : x.kind ≠ 1) (h2 : x.kind ≠ 2) (h4 : x.kind ≠ 4) (i : Nat) (b : BoxS) (hf : findR s.boxes x.box = i) (hb : s.boxes[i]? = some b) (hk : idxR (uidB x.uid) b.mails < 0) : applyR s x = (7, s) := by
  rw [applyR_some s x h6 h1 i b hf hb, if_neg h2, if_neg h4]
  split
  · rfl
  · rw [if_pos hk]
theorem applyR_mail (s : StS) (x : Ent) (h6 : x.kind ≠ 6) (h1 : x.kind ≠ 1) (h2 : x.kind ≠ 2) (h4 : x.kind ≠ 4) (i : Nat) (b : BoxS) (hf : findR s.boxes x.box = i) (hb : s.boxes[i]? = some b) (k : Nat) (m : MailS) (hk : idxR (uidB x.uid) b.mails = k) (hm : b.mails[k]? = some m) : applyR s x =
    if x.kind = 3 then (0, { s with boxes := s.boxes.set i { b with mails := b.mails.set k { m with flags := x.flags } } })
          else if findR s.boxes x.dst < 0 then (7, s) else addR s (findR s.boxes x.dst).toNat m.flags m.text := by
  rw [applyR_some s x h6 h1 i b hf hb, if_neg h2, if_neg h4, hk]
  simp only [Int.toNat_natCast, hm]
  rw [if_neg (by omega)]
set_option maxRecDepth 100000 in
set_option maxHeartbeats 8000000 in
theorem apply_nomail (s : StS) (bx : ByteArray) (ud fl : Int) (ds tx : ByteArray) (B p : Nat) (vb vs : Value) (vm : List Value) (w : World) (h : OwnSt w B p s vb vs vm) (hi : InvS s) (kd : Int) (h6 : (kd == 6) = false) (h1 : (kd == 1) = false) (h2 : (kd == 2) = false) (h4 : (kd == 4) = false) (i : Nat) (b : BoxS) (hf : findR s.boxes bx = i) (hb : s.boxes[i]? = some b) (hil : i < s.boxes.length) (hk : idxR (uidB ud) b.mails < 0) :
    Calls Tryd.prog 25 #[.pointer (some ⟨p, 0, none⟩), entVal ⟨kd, bx, ud, fl, ds, tx⟩] w fun e w' => StepOk w B p (applyR s ⟨kd, bx, ud, fl, ds, tx⟩) e w' := by
  unfold entVal
  simp only
  obtain ⟨A, c, rfl⟩ := own_sliceE h.rb
  have hbA : Below w.heap.size w (w.alloc (.cells #[.int .i64 kd, .string bx, .int .i64 ud, .int .i64 fl, .string ds, .string tx] 31)) := (Below.refl _ w).alloc (Nat.le_refl _) _
  have hB : B ≤ w.heap.size := by have := h.pB; have := h.lt; omega
  have hX : EB (w.alloc (.cells #[.int .i64 kd, .string bx, .int .i64 ud, .int .i64 fl, .string ds, .string tx] 31)) w.heap.size ⟨kd, bx, ud, fl, ds, tx⟩ := World.alloc_heap_new w _
  have hka : KA w (w.alloc (.cells #[.int .i64 kd, .string bx, .int .i64 ud, .int .i64 fl, .string ds, .string tx] 31)).drew B p w.heap.size s (.slice A s.boxes.length c) vs vm ⟨kd, bx, ud, fl, ds, tx⟩ := KA.later ⟨h.later hbA, hX, hbA.mono hB⟩ (bel_drew _)
  have e0 := hka.o.c0
  have x1 := (EB.cells hka.x).2.1
  have hfi := fun W (hW : KA w W B p w.heap.size s (.slice A s.boxes.length c) vs vm ⟨kd, bx, ud, fl, ds, tx⟩) => find_calls s.boxes A c bx W (by have := hi.nb; omega) (hW.o.bx rfl)
  have Hka := Lib.hid hka
  have Hfi := Lib.hid hfi
  have Hi := Lib.hid hi
  have hnb := hi.nb
  have hns := hi.ns
  clear hfi hX hbA hka h hi
  go_enter Tryd.func25, Tryd.ntmps25
  go_wp2_with fail
  go_region_held3 (fun w' => w'.cell? ⟨p, 0, none⟩ = some (.slice A s.boxes.length c) ∧ w'.cell? ⟨w.heap.size, 1, none⟩ = some (.string bx) ∧ KA w w' B p w.heap.size s (.slice A s.boxes.length c) vs vm ⟨kd, bx, ud, fl, ds, tx⟩) (first | exact hKK | exact ⟨e0, x1, Hka.out⟩)
    (first
      | (go_at_call 28; (with_reducible refine (keepA (w := w) (B := B) (p := p) (h := w.heap.size) (s := s) (vb := .slice A s.boxes.length c) (vs := vs) (vm := vm) (x := ⟨kd, bx, ud, fl, ds, tx⟩) (b := .string bx) (j := 1) (Hfi.out _) ?_).mono ?_); (first | assumption | exact hS); rintro e w2 ⟨rfl, hKK⟩))
  obtain ⟨_, _, hK⟩ := hKK
  obtain ⟨x0, x1, x2, x3, x4, x5⟩ := EB.cells hK.x
  have e0 := hK.o.c0
  have HK := Lib.hid hK
  have hlt2 : w.heap.size < w2.heap.size := (Array.getElem?_eq_some_iff.1 hK.x).1
  have hpl := hK.o.lt
  have hpB := hK.o.pB
  clear Hka Hfi hK
  have hr : applyR s ⟨kd, bx, ud, fl, ds, tx⟩ = (7, s) := applyR_nomail s _ (by simpa using h6) (by simpa using h1) (by simpa using h2) (by simpa using h4) i b hf hb hk
  obtain ⟨Am, cm, hv⟩ := HK.out.o.vmAt i b hb
  obtain ⟨g, c', e, q0, q1, q2, qf⟩ := HK.out.o.boxAt i b _ hb hv
  obtain ⟨rfl, _, rfl⟩ := Value.slice.inj e
  rw [Nat.zero_add] at q0 q1 q2
  have hi0 : (0 : Int) ≤ (i : Int) := by omega
  have hin : (i : Int) < (s.boxes.length : Int) := by omega
  have hi1 : ¬ (i : Int) < 0 := by omega
  have hbi := Hi.out.nm b (List.mem_of_getElem? hb)
  have hrm := HK.out.o.rm i b _ hb hv
  have hix := idxM_calls 37 #[.pointer (some ⟨w.heap.size, 0, none⟩)] (uidB ud) ent_uid b.mails Am cm w2 (by omega) (ms_of_own hrm rfl) (uid_pred w2 b.mails w.heap.size ud x2)
  have Hr := Lib.hid hr
  have Hix := Lib.hid hix
  obtain ⟨nm, nx, ms⟩ := b
  simp only at *
  generalize idxR (uidB ud) ms = q at *
  clear hr hix hb hv hbi hrm e
  go_wp2_with fail
  refine Hix.out.mono ?_
  rintro e w3 ⟨rfl, hb3⟩
  have HK3 := Lib.hid (HK.out.later hb3)
  clear Hix hb3
  go_wp2_with fail
  go_ret
  exact ⟨by rw [Hr.out]; rfl, _, _, _, by rw [Hr.out]; exact HK3.out.o, HK3.out.bl⟩
set_option maxRecDepth 100000 in
set_option maxHeartbeats 8000000 in
theorem apply_flag (s : StS) (bx : ByteArray) (ud fl : Int) (ds tx : ByteArray) (B p : Nat) (vb vs : Value) (vm : List Value) (w : World) (h : OwnSt w B p s vb vs vm) (hi : InvS s) (i : Nat) (b : BoxS) (hf : findR s.boxes bx = i) (hb : s.boxes[i]? = some b) (hil : i < s.boxes.length) (k : Nat) (m : MailS) (hk : idxR (uidB ud) b.mails = k) (hm : b.mails[k]? = some m) (hkl : k < b.mails.length) :
    Calls Tryd.prog 25 #[.pointer (some ⟨p, 0, none⟩), entVal ⟨3, bx, ud, fl, ds, tx⟩] w fun e w' => StepOk w B p (applyR s ⟨3, bx, ud, fl, ds, tx⟩) e w' := by
  unfold entVal
  simp only
  obtain ⟨A, c, rfl⟩ := own_sliceE h.rb
  have hbA : Below w.heap.size w (w.alloc (.cells #[.int .i64 3, .string bx, .int .i64 ud, .int .i64 fl, .string ds, .string tx] 31)) := (Below.refl _ w).alloc (Nat.le_refl _) _
  have hB : B ≤ w.heap.size := by have := h.pB; have := h.lt; omega
  have hX : EB (w.alloc (.cells #[.int .i64 3, .string bx, .int .i64 ud, .int .i64 fl, .string ds, .string tx] 31)) w.heap.size ⟨3, bx, ud, fl, ds, tx⟩ := World.alloc_heap_new w _
  have hka : KA w (w.alloc (.cells #[.int .i64 3, .string bx, .int .i64 ud, .int .i64 fl, .string ds, .string tx] 31)).drew B p w.heap.size s (.slice A s.boxes.length c) vs vm ⟨3, bx, ud, fl, ds, tx⟩ := KA.later ⟨h.later hbA, hX, hbA.mono hB⟩ (bel_drew _)
  have e0 := hka.o.c0
  have x1 := (EB.cells hka.x).2.1
  have hfi := fun W (hW : KA w W B p w.heap.size s (.slice A s.boxes.length c) vs vm ⟨3, bx, ud, fl, ds, tx⟩) => find_calls s.boxes A c bx W (by have := hi.nb; omega) (hW.o.bx rfl)
  have Hka := Lib.hid hka
  have Hfi := Lib.hid hfi
  have Hi := Lib.hid hi
  have hnb := hi.nb
  have hns := hi.ns
  clear hfi hX hbA hka h hi
  go_enter Tryd.func25, Tryd.ntmps25
  go_wp2_with fail
  go_region_held3 (fun w' => w'.cell? ⟨p, 0, none⟩ = some (.slice A s.boxes.length c) ∧ w'.cell? ⟨w.heap.size, 1, none⟩ = some (.string bx) ∧ KA w w' B p w.heap.size s (.slice A s.boxes.length c) vs vm ⟨3, bx, ud, fl, ds, tx⟩) (first | exact hKK | exact ⟨e0, x1, Hka.out⟩)
    (first
      | (go_at_call 28; (with_reducible refine (keepA (w := w) (B := B) (p := p) (h := w.heap.size) (s := s) (vb := .slice A s.boxes.length c) (vs := vs) (vm := vm) (x := ⟨3, bx, ud, fl, ds, tx⟩) (b := .string bx) (j := 1) (Hfi.out _) ?_).mono ?_); (first | assumption | exact hS); rintro e w2 ⟨rfl, hKK⟩))
  obtain ⟨_, _, hK⟩ := hKK
  obtain ⟨x0, x1, x2, x3, x4, x5⟩ := EB.cells hK.x
  have e0 := hK.o.c0
  have HK := Lib.hid hK
  have hlt2 : w.heap.size < w2.heap.size := (Array.getElem?_eq_some_iff.1 hK.x).1
  have hpl := hK.o.lt
  have hpB := hK.o.pB
  clear Hka Hfi hK
  have hr : applyR s ⟨3, bx, ud, fl, ds, tx⟩ = (0, { s with boxes := s.boxes.set i { b with mails := b.mails.set k { m with flags := fl } } }) := by rw [applyR_mail s _ (by simp) (by simp) (by simp) (by simp) i b hf hb k m hk hm]; rfl
  obtain ⟨Am, cm, hv⟩ := HK.out.o.vmAt i b hb
  obtain ⟨g, c', e, q0, q1, q2, qf⟩ := HK.out.o.boxAt i b _ hb hv
  obtain ⟨rfl, _, rfl⟩ := Value.slice.inj e
  rw [Nat.zero_add] at q0 q1 q2
  have hi0 : (0 : Int) ≤ (i : Int) := by omega
  have hin : (i : Int) < (s.boxes.length : Int) := by omega
  have hi1 : ¬ (i : Int) < 0 := by omega
  have hbi := Hi.out.nm b (List.mem_of_getElem? hb)
  have hrm := HK.out.o.rm i b _ hb hv
  have hix := idxM_calls 37 #[.pointer (some ⟨w.heap.size, 0, none⟩)] (uidB ud) ent_uid b.mails Am cm w2 (by omega) (ms_of_own hrm rfl) (uid_pred w2 b.mails w.heap.size ud x2)
  rw [hk] at hix
  obtain ⟨gm, cm', em, _, _⟩ := hrm.form (by omega)
  obtain ⟨rfl, _, rfl⟩ := Value.slice.inj em
  have hk0 : (0 : Int) ≤ (k : Int) := by omega
  have hkn : (k : Int) < (b.mails.length : Int) := by omega
  have hk1 : ¬ (k : Int) < 0 := by omega
  have Hr := Lib.hid hr
  have Hix := Lib.hid hix
  have Hv := Lib.hid hv
  have Hb := Lib.hid hb
  have Hm := Lib.hid hm
  obtain ⟨nm, nx, ms⟩ := b
  simp only at *
  clear hr hix hb hv hbi hrm e em hk hm
  go_wp2_with fail
  refine Hix.out.mono ?_
  rintro e w3 ⟨rfl, hb3⟩
  have hK3 := HK.out.later hb3
  have hrm3 := hK3.o.rm i _ _ Hb.out Hv.out
  obtain ⟨g2, off, e2, a0, a1, a2⟩ := ms_of_own hrm3 rfl k m Hm.out
  obtain ⟨rfl, rfl⟩ : gm = g2 ∧ 0 = off := by injection e2 with e3; injection e3 with e4 e5; exact ⟨e4, e5⟩
  rw [Nat.zero_add] at a0 a1 a2
  have af := hrm3.frozenAt (k * 3 + 1)
  have p0 := hK3.o.c0
  obtain ⟨_, _, _, r3, _, _⟩ := EB.cells hK3.x
  have r0 := (EB.cells hK3.x).1
  have q2' := cell_later hb3 q2
  have HK3 := Lib.hid hK3
  clear Hix hb3 hrm3 hK3 e2 x0 x1 x2 x3 x4 x5 e0 q0 q1 q2 qf a0 a2 HK
  go_wp2_with fail
  go_region
  all_goals
    go_wp2
    go_ret
    exact ⟨by rw [Hr.out]; rfl, _, _, _, by rw [Hr.out]; exact (HK3.out.later (bel_drew _)).o.setFlag i k gm _ _ m fl Hb.out Hv.out Hm.out, (HK3.out.later (bel_drew _)).bl.setCell (p := ⟨gm, k * 3 + 1, none⟩) (by
      have hbi2 : (blksOf p (.slice (some ⟨g, 0, none⟩) s.boxes.length c) vs vm)[i + 3]? = some (some gm) := by simp [blksOf, Hv.out, Value.ownBlock]
      exact (HK3.out.o.blk (i + 3) gm hbi2).1) _⟩
set_option maxRecDepth 100000 in
set_option maxHeartbeats 8000000 in
theorem apply_copy_none (s : StS) (bx : ByteArray) (ud fl : Int) (ds tx : ByteArray) (B p : Nat) (vb vs : Value) (vm : List Value) (w : World) (h : OwnSt w B p s vb vs vm) (hi : InvS s) (i : Nat) (b : BoxS) (hf : findR s.boxes bx = i) (hb : s.boxes[i]? = some b) (hil : i < s.boxes.length) (k : Nat) (m : MailS) (hk : idxR (uidB ud) b.mails = k) (hm : b.mails[k]? = some m) (hkl : k < b.mails.length) (hd : findR s.boxes ds < 0) :
    Calls Tryd.prog 25 #[.pointer (some ⟨p, 0, none⟩), entVal ⟨5, bx, ud, fl, ds, tx⟩] w fun e w' => StepOk w B p (applyR s ⟨5, bx, ud, fl, ds, tx⟩) e w' := by
  unfold entVal
  simp only
  obtain ⟨A, c, rfl⟩ := own_sliceE h.rb
  have hbA : Below w.heap.size w (w.alloc (.cells #[.int .i64 5, .string bx, .int .i64 ud, .int .i64 fl, .string ds, .string tx] 31)) := (Below.refl _ w).alloc (Nat.le_refl _) _
  have hB : B ≤ w.heap.size := by have := h.pB; have := h.lt; omega
  have hX : EB (w.alloc (.cells #[.int .i64 5, .string bx, .int .i64 ud, .int .i64 fl, .string ds, .string tx] 31)) w.heap.size ⟨5, bx, ud, fl, ds, tx⟩ := World.alloc_heap_new w _
  have hka : KA w (w.alloc (.cells #[.int .i64 5, .string bx, .int .i64 ud, .int .i64 fl, .string ds, .string tx] 31)).drew B p w.heap.size s (.slice A s.boxes.length c) vs vm ⟨5, bx, ud, fl, ds, tx⟩ := KA.later ⟨h.later hbA, hX, hbA.mono hB⟩ (bel_drew _)
  have e0 := hka.o.c0
  have x1 := (EB.cells hka.x).2.1
  have hfi := fun W (hW : KA w W B p w.heap.size s (.slice A s.boxes.length c) vs vm ⟨5, bx, ud, fl, ds, tx⟩) => find_calls s.boxes A c bx W (by have := hi.nb; omega) (hW.o.bx rfl)
  have Hka := Lib.hid hka
  have Hfi := Lib.hid hfi
  have Hi := Lib.hid hi
  have hnb := hi.nb
  have hns := hi.ns
  clear hfi hX hbA hka h hi
  go_enter Tryd.func25, Tryd.ntmps25
  go_wp2_with fail
  go_region_held3 (fun w' => w'.cell? ⟨p, 0, none⟩ = some (.slice A s.boxes.length c) ∧ w'.cell? ⟨w.heap.size, 1, none⟩ = some (.string bx) ∧ KA w w' B p w.heap.size s (.slice A s.boxes.length c) vs vm ⟨5, bx, ud, fl, ds, tx⟩) (first | exact hKK | exact ⟨e0, x1, Hka.out⟩)
    (first
      | (go_at_call 28; (with_reducible refine (keepA (w := w) (B := B) (p := p) (h := w.heap.size) (s := s) (vb := .slice A s.boxes.length c) (vs := vs) (vm := vm) (x := ⟨5, bx, ud, fl, ds, tx⟩) (b := .string bx) (j := 1) (Hfi.out _) ?_).mono ?_); (first | assumption | exact hS); rintro e w2 ⟨rfl, hKK⟩))
  obtain ⟨_, _, hK⟩ := hKK
  obtain ⟨x0, x1, x2, x3, x4, x5⟩ := EB.cells hK.x
  have e0 := hK.o.c0
  have HK := Lib.hid hK
  have hlt2 : w.heap.size < w2.heap.size := (Array.getElem?_eq_some_iff.1 hK.x).1
  have hpl := hK.o.lt
  have hpB := hK.o.pB
  clear Hka Hfi hK
  have hr : applyR s ⟨5, bx, ud, fl, ds, tx⟩ = (7, s) := by rw [applyR_mail s _ (by simp) (by simp) (by simp) (by simp) i b hf hb k m hk hm, if_neg (by simp), if_pos hd]
  obtain ⟨Am, cm, hv⟩ := HK.out.o.vmAt i b hb
  obtain ⟨g, c', e, q0, q1, q2, qf⟩ := HK.out.o.boxAt i b _ hb hv
  obtain ⟨rfl, _, rfl⟩ := Value.slice.inj e
  rw [Nat.zero_add] at q0 q1 q2
  have hi0 : (0 : Int) ≤ (i : Int) := by omega
  have hin : (i : Int) < (s.boxes.length : Int) := by omega
  have hi1 : ¬ (i : Int) < 0 := by omega
  have hbi := Hi.out.nm b (List.mem_of_getElem? hb)
  have hrm := HK.out.o.rm i b _ hb hv
  have hix := idxM_calls 37 #[.pointer (some ⟨w.heap.size, 0, none⟩)] (uidB ud) ent_uid b.mails Am cm w2 (by omega) (ms_of_own hrm rfl) (uid_pred w2 b.mails w.heap.size ud x2)
  rw [hk] at hix
  obtain ⟨gm, cm', em, _, _⟩ := hrm.form (by omega)
  obtain ⟨rfl, _, rfl⟩ := Value.slice.inj em
  have hk0 : (0 : Int) ≤ (k : Int) := by omega
  have hkn : (k : Int) < (b.mails.length : Int) := by omega
  have hk1 : ¬ (k : Int) < 0 := by omega
  have hmb := hbi.2.2 m (List.mem_of_getElem? hm)
  have Hr := Lib.hid hr
  have Hix := Lib.hid hix
  have Hv := Lib.hid hv
  have Hb := Lib.hid hb
  have Hm := Lib.hid hm
  have hfd := fun W (hW : KA w W B p w.heap.size s (.slice (some ⟨g, 0, none⟩) s.boxes.length c) vs vm ⟨5, bx, ud, fl, ds, tx⟩) => find_calls s.boxes (some ⟨g, 0, none⟩) c ds W (by omega) (hW.o.bx rfl)
  have Hfd := Lib.hid hfd
  obtain ⟨nm, nx, ms⟩ := b
  simp only at *
  clear hr hix hb hv hbi hrm e em hk hm hfd
  go_wp2_with fail
  refine Hix.out.mono ?_
  rintro e w3 ⟨rfl, hb3⟩
  have hK3 := HK.out.later hb3
  have hK3d := hK3.later (bel_drew _)
  have e0' := hK3d.o.c0
  have r0 := (EB.cells hK3.x).1
  have y4 := (EB.cells hK3d.x).2.2.2.2.1
  have HK3d := Lib.hid hK3d
  clear Hix hb3 hK3 hK3d x0 x1 x2 x3 x4 x5 e0 q0 q1 q2 qf HK
  go_wp2_with fail
  go_region_held3 (fun w' => w'.cell? ⟨p, 0, none⟩ = some (.slice (some ⟨g, 0, none⟩) s.boxes.length c) ∧ w'.cell? ⟨w.heap.size, 4, none⟩ = some (.string ds) ∧ KA w w' B p w.heap.size s (.slice (some ⟨g, 0, none⟩) s.boxes.length c) vs vm ⟨5, bx, ud, fl, ds, tx⟩) (first | exact hKK | exact ⟨e0', y4, HK3d.out⟩)
    (first
      | (go_at_call 28; (with_reducible refine (keepA (w := w) (B := B) (p := p) (h := w.heap.size) (s := s) (vb := .slice (some ⟨g, 0, none⟩) s.boxes.length c) (vs := vs) (vm := vm) (x := ⟨5, bx, ud, fl, ds, tx⟩) (b := .string ds) (j := 4) (Hfd.out _) ?_).mono ?_); (first | assumption | exact hS); rintro e w4 ⟨rfl, hKK⟩))
  obtain ⟨_, _, hK4⟩ := hKK
  have HK4 := Lib.hid hK4
  generalize findR s.boxes ds = q at *
  clear hK4 Hfd e0' r0 y4
  go_wp2_with fail
  go_ret
  exact ⟨by rw [Hr.out]; rfl, _, _, _, by rw [Hr.out]; exact HK4.out.o, HK4.out.bl⟩
set_option maxRecDepth 100000 in
set_option maxHeartbeats 8000000 in
theorem apply_copy (s : StS) (bx : ByteArray) (ud fl : Int) (ds tx : ByteArray) (B p : Nat) (vb vs : Value) (vm : List Value) (w : World) (h : OwnSt w B p s vb vs vm) (hi : InvS s) (i : Nat) (b : BoxS) (hf : findR s.boxes bx = i) (hb : s.boxes[i]? = some b) (hil : i < s.boxes.length) (k : Nat) (m : MailS) (hk : idxR (uidB ud) b.mails = k) (hm : b.mails[k]? = some m) (hkl : k < b.mails.length) (q : Nat) (hd : findR s.boxes ds = q) (htl : q < s.boxes.length) :
    Calls Tryd.prog 25 #[.pointer (some ⟨p, 0, none⟩), entVal ⟨5, bx, ud, fl, ds, tx⟩] w fun e w' => StepOk w B p (applyR s ⟨5, bx, ud, fl, ds, tx⟩) e w' := by
  unfold entVal
  simp only
  obtain ⟨A, c, rfl⟩ := own_sliceE h.rb
  have hbA : Below w.heap.size w (w.alloc (.cells #[.int .i64 5, .string bx, .int .i64 ud, .int .i64 fl, .string ds, .string tx] 31)) := (Below.refl _ w).alloc (Nat.le_refl _) _
  have hB : B ≤ w.heap.size := by have := h.pB; have := h.lt; omega
  have hX : EB (w.alloc (.cells #[.int .i64 5, .string bx, .int .i64 ud, .int .i64 fl, .string ds, .string tx] 31)) w.heap.size ⟨5, bx, ud, fl, ds, tx⟩ := World.alloc_heap_new w _
  have hka : KA w (w.alloc (.cells #[.int .i64 5, .string bx, .int .i64 ud, .int .i64 fl, .string ds, .string tx] 31)).drew B p w.heap.size s (.slice A s.boxes.length c) vs vm ⟨5, bx, ud, fl, ds, tx⟩ := KA.later ⟨h.later hbA, hX, hbA.mono hB⟩ (bel_drew _)
  have e0 := hka.o.c0
  have x1 := (EB.cells hka.x).2.1
  have hfi := fun W (hW : KA w W B p w.heap.size s (.slice A s.boxes.length c) vs vm ⟨5, bx, ud, fl, ds, tx⟩) => find_calls s.boxes A c bx W (by have := hi.nb; omega) (hW.o.bx rfl)
  have Hka := Lib.hid hka
  have Hfi := Lib.hid hfi
  have Hi := Lib.hid hi
  have hnb := hi.nb
  have hns := hi.ns
  clear hfi hX hbA hka h hi
  go_enter Tryd.func25, Tryd.ntmps25
  go_wp2_with fail
  go_region_held3 (fun w' => w'.cell? ⟨p, 0, none⟩ = some (.slice A s.boxes.length c) ∧ w'.cell? ⟨w.heap.size, 1, none⟩ = some (.string bx) ∧ KA w w' B p w.heap.size s (.slice A s.boxes.length c) vs vm ⟨5, bx, ud, fl, ds, tx⟩) (first | exact hKK | exact ⟨e0, x1, Hka.out⟩)
    (first
      | (go_at_call 28; (with_reducible refine (keepA (w := w) (B := B) (p := p) (h := w.heap.size) (s := s) (vb := .slice A s.boxes.length c) (vs := vs) (vm := vm) (x := ⟨5, bx, ud, fl, ds, tx⟩) (b := .string bx) (j := 1) (Hfi.out _) ?_).mono ?_); (first | assumption | exact hS); rintro e w2 ⟨rfl, hKK⟩))
  obtain ⟨_, _, hK⟩ := hKK
  obtain ⟨x0, x1, x2, x3, x4, x5⟩ := EB.cells hK.x
  have e0 := hK.o.c0
  have HK := Lib.hid hK
  have hlt2 : w.heap.size < w2.heap.size := (Array.getElem?_eq_some_iff.1 hK.x).1
  have hpl := hK.o.lt
  have hpB := hK.o.pB
  clear Hka Hfi hK
  have hr : applyR s ⟨5, bx, ud, fl, ds, tx⟩ = addR s q m.flags m.text := by rw [applyR_mail s _ (by simp) (by simp) (by simp) (by simp) i b hf hb k m hk hm, if_neg (by simp), if_neg (by show ¬ findR s.boxes ds < 0; omega)]; show addR s (findR s.boxes ds).toNat _ _ = _; rw [hd]; rfl
  obtain ⟨Am, cm, hv⟩ := HK.out.o.vmAt i b hb
  obtain ⟨g, c', e, q0, q1, q2, qf⟩ := HK.out.o.boxAt i b _ hb hv
  obtain ⟨rfl, _, rfl⟩ := Value.slice.inj e
  rw [Nat.zero_add] at q0 q1 q2
  have hi0 : (0 : Int) ≤ (i : Int) := by omega
  have hin : (i : Int) < (s.boxes.length : Int) := by omega
  have hi1 : ¬ (i : Int) < 0 := by omega
  have hbi := Hi.out.nm b (List.mem_of_getElem? hb)
  have hrm := HK.out.o.rm i b _ hb hv
  have hix := idxM_calls 37 #[.pointer (some ⟨w.heap.size, 0, none⟩)] (uidB ud) ent_uid b.mails Am cm w2 (by omega) (ms_of_own hrm rfl) (uid_pred w2 b.mails w.heap.size ud x2)
  rw [hk] at hix
  obtain ⟨gm, cm', em, _, _⟩ := hrm.form (by omega)
  obtain ⟨rfl, _, rfl⟩ := Value.slice.inj em
  have hk0 : (0 : Int) ≤ (k : Int) := by omega
  have hkn : (k : Int) < (b.mails.length : Int) := by omega
  have hk1 : ¬ (k : Int) < 0 := by omega
  have hmb := hbi.2.2 m (List.mem_of_getElem? hm)
  have Hr := Lib.hid hr
  have Hix := Lib.hid hix
  have Hv := Lib.hid hv
  have Hb := Lib.hid hb
  have Hm := Lib.hid hm
  have hfd := fun W (hW : KA w W B p w.heap.size s (.slice (some ⟨g, 0, none⟩) s.boxes.length c) vs vm ⟨5, bx, ud, fl, ds, tx⟩) => find_calls s.boxes (some ⟨g, 0, none⟩) c ds W (by omega) (hW.o.bx rfl)
  have Hfd := Lib.hid hfd
  obtain ⟨nm, nx, ms⟩ := b
  simp only at *
  clear hr hix hb hv hbi hrm e em hk hm hfd
  go_wp2_with fail
  refine Hix.out.mono ?_
  rintro e w3 ⟨rfl, hb3⟩
  have hK3 := HK.out.later hb3
  have hK3d := hK3.later (bel_drew _)
  have e0' := hK3d.o.c0
  have r0 := (EB.cells hK3.x).1
  have y4 := (EB.cells hK3d.x).2.2.2.2.1
  have HK3d := Lib.hid hK3d
  clear Hix hb3 hK3 hK3d x0 x1 x2 x3 x4 x5 e0 q0 q1 q2 qf HK
  go_wp2_with fail
  go_region_held3 (fun w' => w'.cell? ⟨p, 0, none⟩ = some (.slice (some ⟨g, 0, none⟩) s.boxes.length c) ∧ w'.cell? ⟨w.heap.size, 4, none⟩ = some (.string ds) ∧ KA w w' B p w.heap.size s (.slice (some ⟨g, 0, none⟩) s.boxes.length c) vs vm ⟨5, bx, ud, fl, ds, tx⟩) (first | exact hKK | exact ⟨e0', y4, HK3d.out⟩)
    (first
      | (go_at_call 28; (with_reducible refine (keepA (w := w) (B := B) (p := p) (h := w.heap.size) (s := s) (vb := .slice (some ⟨g, 0, none⟩) s.boxes.length c) (vs := vs) (vm := vm) (x := ⟨5, bx, ud, fl, ds, tx⟩) (b := .string ds) (j := 4) (Hfd.out _) ?_).mono ?_); (first | assumption | exact hS); rintro e w4 ⟨rfl, hKK⟩))
  obtain ⟨_, _, hK4⟩ := hKK
  have HK4 := Lib.hid hK4
  have hto : ¬ (q : Int) < 0 := by omega
  have hrm4 := hK4.o.rm i _ _ Hb.out Hv.out
  obtain ⟨g3, c3, e3, z0, z1, z2, zf⟩ := hK4.o.boxAt i _ _ Hb.out Hv.out
  obtain ⟨e5, _, _⟩ := Value.slice.inj e3
  obtain rfl : g = g3 := by injection e5 with e6; injection e6
  rw [Nat.zero_add] at z0 z1 z2
  obtain ⟨g2, off, e2, a0, a1, a2⟩ := ms_of_own hrm4 rfl k m Hm.out
  obtain ⟨rfl, rfl⟩ : gm = g2 ∧ 0 = off := by injection e2 with e3; injection e3 with e4 e5; exact ⟨e4, e5⟩
  rw [Nat.zero_add] at a0 a1 a2
  have p0 := hK4.o.c0
  obtain ⟨um, fm, tm⟩ := m
  simp only at a0 a1 a2 Hr Hm hmb
  have hbB : Below w4.heap.size w4 (w4.alloc (.cells #[.int .i64 um, .int .i64 fm, .string tm] 41)) := (Below.refl _ w4).alloc (Nat.le_refl _) _
  have hX := Bk.new w4 [.int .i64 um, .int .i64 fm, .string tm] 41
  have m1 := hX.cell 1 _ rfl
  have m2 := hX.cell 2 _ rfl
  have hK5 := hK4.later hbB
  have had := add_calls s q fm tm B p _ _ _ _ hK5.o htl Hi.out.z (fun b hb => (Hi.out.nm b hb).2.1) (by omega)
  have Had := Lib.hid had
  have HK5 := Lib.hid hK5
  clear hK4 Hfd e0' r0 y4 hrm4 e3 e5 zf hbB hX hK5 had e2 HK4
  go_wp2_with fail
  refine Had.out.mono ?_
  rintro e w6 ⟨rfl, vb', vs', vm', hO3, hb3⟩
  have HO3 := Lib.hid hO3
  have Hb3 := Lib.hid (HK5.out.bl.trans hb3)
  clear hO3 hb3 Had
  go_wp2_with fail
  go_ret
  exact ⟨by rw [Hr.out]; rfl, vb', vs', vm', by rw [Hr.out]; exact HO3.out, Hb3.out⟩
theorem apply_calls (s : StS) (x : Ent) (B p : Nat) (vb vs : Value) (vm : List Value) (w : World) (h : OwnSt w B p s vb vs vm) (hi : InvS s) (hf : formR x = 0) :
    Calls Tryd.prog 25 #[.pointer (some ⟨p, 0, none⟩), entVal x] w fun e w' => StepOk w B p (applyR s x) e w' := by
  have ho := form_ok x hf
  obtain ⟨kd, bx, ud, fl, ds, tx⟩ := x
  obtain ⟨k1, k2, f1, f2, u1, u2, ht, hb, hd⟩ := ho
  simp only at k1 k2 ht
  have hk : kd = 6 ∨ kd = 1 ∨ kd = 2 ∨ kd = 3 ∨ kd = 4 ∨ kd = 5 := by omega
  rcases hk with rfl | rfl | hk
  · exact apply_spool s bx ud fl ds tx B p vb vs vm w h hi
  · exact apply_create s bx ud fl ds tx B p vb vs vm w h hi
  · by_cases hq : findR s.boxes bx < 0
    · exact apply_none s bx ud fl ds tx B p vb vs vm w h hi kd (by simp; omega) (by simp; omega) hq
    · obtain ⟨i, b, h1, h2, h3⟩ := pick_box s bx hq
      rcases hk with rfl | hk | rfl | hk
      · exact apply_append s bx ud fl ds tx B p vb vs vm w h hi i b h1 h2 h3 (by omega)
      · by_cases hm : idxR (uidB ud) b.mails < 0
        · exact apply_nomail s bx ud fl ds tx B p vb vs vm w h hi kd (by simp; omega) (by simp; omega) (by simp; omega) (by simp; omega) i b h1 h2 h3 hm
        · obtain ⟨k, m, m1, m2, m3⟩ := pick_mail b.mails ud hm
          subst hk
          exact apply_flag s bx ud fl ds tx B p vb vs vm w h hi i b h1 h2 h3 k m m1 m2 m3
      · exact apply_expunge s bx ud fl ds tx B p vb vs vm w h hi i b h1 h2 h3
      · by_cases hm : idxR (uidB ud) b.mails < 0
        · exact apply_nomail s bx ud fl ds tx B p vb vs vm w h hi kd (by simp; omega) (by simp; omega) (by simp; omega) (by simp; omega) i b h1 h2 h3 hm
        · obtain ⟨k, m, m1, m2, m3⟩ := pick_mail b.mails ud hm
          subst hk
          by_cases hd2 : findR s.boxes ds < 0
          · exact apply_copy_none s bx ud fl ds tx B p vb vs vm w h hi i b h1 h2 h3 k m m1 m2 m3 hd2
          · obtain ⟨q, b2, d1, d2, d3⟩ := pick_box s ds hd2
            exact apply_copy s bx ud fl ds tx B p vb vs vm w h hi i b h1 h2 h3 k m m1 m2 m3 q d1 d3
theorem inv_set {s : StS} (h : InvS s) (i : Nat) (b' : BoxS) (hb : b'.mails.length ≤ 30 ∧ 0 ≤ b'.next ∧ ∀ m ∈ b'.mails, 0 ≤ m.flags ∧ m.flags ≤ 31 ∧ m.text.size ≤ 2000) : InvS { s with boxes := s.boxes.set i b' } := by
  refine ⟨by show (s.boxes.set i b').length ≤ 5; rw [List.length_set]; exact h.nb, h.ns, fun b hbm => ?_⟩
  rcases List.mem_or_eq_of_mem_set hbm with h1 | rfl
  · exact h.nm b h1
  · exact hb
theorem inv_add {s : StS} (h : InvS s) (i : Nat) (fl : Int) (t : ByteArray) (hf : 0 ≤ fl ∧ fl ≤ 31) (ht : t.size ≤ 2000) : InvS (addR s i fl t).2 := by
  unfold addR
  split
  · exact h
  · next b hb =>
    split
    · exact h
    · next hc =>
      have hbm := h.nm b (List.mem_of_getElem? hb)
      refine inv_set h i _ ⟨by simp; omega, by show 0 ≤ b.next + 1; omega, fun m hm => ?_⟩
      rcases List.mem_append.1 hm with hm | hm
      · exact hbm.2.2 m hm
      · simp at hm
        subst hm
        exact ⟨hf.1, hf.2, ht⟩
theorem inv_apply {s : StS} (h : InvS s) (x : Ent) (hf : formR x = 0) : InvS (applyR s x).2 := by
  have ho := form_ok x hf
  unfold applyR
  split
  · split
    · exact h
    · exact ⟨h.nb, by show (s.spool ++ [x]).length ≤ 20; rw [List.length_append, List.length_cons, List.length_nil]; have := h.ns; omega, h.nm⟩
  · split
    · split
      · exact h
      · split
        · exact h
        · refine ⟨by show (s.boxes ++ [_]).length ≤ 5; rw [List.length_append, List.length_cons, List.length_nil]; have := h.nb; omega, h.ns, fun b hb => ?_⟩
          rcases List.mem_append.1 hb with hb | hb
          · exact h.nm b hb
          · simp at hb
            subst hb
            simp
    · split
      · exact h
      · next b hb =>
        have hbm := h.nm b (List.mem_of_getElem? hb)
        split
        · exact h
        · split
          · exact inv_add h _ _ _ ⟨ho.f1, ho.f2⟩ ho.tx
          · split
            · refine inv_set h _ _ ⟨Nat.le_trans (List.length_filter_le _ _) hbm.1, hbm.2.1, fun m hm => hbm.2.2 m (List.mem_filter.1 hm).1⟩
            · split
              · exact h
              · next m hm =>
                have hmm := hbm.2.2 m (List.mem_of_getElem? hm)
                split
                · exact h
                · split
                  · refine inv_set h _ _ ⟨by simpa using hbm.1, hbm.2.1, fun m' hm' => ?_⟩
                    rcases List.mem_or_eq_of_mem_set hm' with h1 | rfl
                    · exact hbm.2.2 m' h1
                    · exact ⟨ho.f1, ho.f2, hmm.2.2⟩
                  · split
                    · exact h
                    · exact inv_add h _ _ _ ⟨hmm.1, hmm.2.1⟩ hmm.2.2
end Go.Proofs.YtbddahdkjngecaaDoor
