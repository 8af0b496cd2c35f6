/- box.Check: what it answers. -/
import Derived.Test.YtpncahklapfoaaaDoorBoxOk
import Derived.Test.YtpncahklapfoaaaDoorForm
import Derived.Deep.RegionHeld3
import Derived.Deep.RegionWith
namespace Go.Proofs.YtpncahklapfoaaaDoor
open Go.RowKit
set_option linter.unusedVariables false

/-- What stands in a round of Check: the boxes, the mails of the one that is looked at, and the cell of MaxLen. -/
structure KX (w0 W : World) (b : Nat) (vx v2 : Value) (A : Option Addr) (l : List BoxS) (Am : Option Addr) (ms : List MailS) (m : Int) : Prop where
  x0 : W.cell? ⟨b, 0, none⟩ = some vx
  x1 : W.cell? ⟨b, 1, none⟩ = some v2
  bx : BxAt W A l
  ms : MsAt W Am ms
  mx : W.cell? ⟨0, 0, none⟩ = some (.int .i64 m)
  bl : Below w0.heap.size w0 W
theorem KX.later {w0 W W' : World} {b : Nat} {vx v2 : Value} {A Am : Option Addr} {l : List BoxS} {ms : List MailS} {m : Int} (h : KX w0 W b vx v2 A l Am ms m) (hb : Below W.heap.size W W') : KX w0 W' b vx v2 A l Am ms m :=
  ⟨cell_later hb h.x0, cell_later hb h.x1, h.bx.later hb, h.ms.later hb, cell_later hb h.mx, h.bl.trans (hb.mono h.bl.size)⟩
theorem bel_drew (w : World) : Below w.heap.size w w.drew := ⟨rfl, rfl, rfl, Nat.le_refl _, fun _ _ => rfl⟩
theorem BxAt.take {w : World} {A : Option Addr} {l : List BoxS} (h : BxAt w A l) (k : Nat) : BxAt w A (l.take k) := fun j b hb => h j b (by
  rw [List.getElem?_take] at hb
  split at hb
  · exact hb
  · cases hb)
/-- A call that leaves what was there leaves the state of the round. -/
theorem keepX {f : FuncId} {args : Array Value} {r : Value} {w0 W : World} {b q : Nat} {vx v2 y0 y1 y2 : Value} {A Am : Option Addr} {l : List BoxS} {ms : List MailS} {m : Int}
    (hc : KX w0 W b vx v2 A l Am ms m → Calls Tryd.prog f args W fun e w' => e = .returned r ∧ Below W.heap.size W w')
    (h : W.cell? ⟨q, 0, none⟩ = some y0 ∧ W.cell? ⟨q, 1, none⟩ = some y1 ∧ W.cell? ⟨q, 2, none⟩ = some y2 ∧ W.cell? ⟨b, 0, none⟩ = some vx ∧ KX w0 W b vx v2 A l Am ms m) :
    Calls Tryd.prog f args W fun e w' => e = .returned r ∧ (w'.cell? ⟨q, 0, none⟩ = some y0 ∧ w'.cell? ⟨q, 1, none⟩ = some y1 ∧ w'.cell? ⟨q, 2, none⟩ = some y2 ∧ w'.cell? ⟨b, 0, none⟩ = some vx ∧ KX w0 w' b vx v2 A l Am ms m) :=
  (hc h.2.2.2.2).mono fun _ _ ⟨he, hb⟩ => ⟨he, cell_later hb h.1, cell_later hb h.2.1, cell_later hb h.2.2.1, cell_later hb h.2.2.2.1, h.2.2.2.2.later hb⟩
/-- Sizes under which Check is walked. -/
structure OkC (s : StS) : Prop where
  bx : ∀ b ∈ s.boxes, b.name.size ≤ 9223372036854775807 ∧ b.mails.length ≤ 9223372036854775807 ∧ ∀ m ∈ b.mails, m.text.size ≤ 9223372036854775807
  nb : s.boxes.length ≤ 9223372036854775807
  ns : s.spool.length ≤ 9223372036854775807
  sp : ∀ x ∈ s.spool, SmE x
/-- The first half of Check: what stands behind the loop over the boxes. -/
def ChkOk (w : World) (s : StS) (e : Ending) (w' : World) : Prop := e = .returned (.int .i64 (checkR s)) ∧ Below w.heap.size w w'
set_option maxRecDepth 100000 in
set_option maxHeartbeats 4000000 in
theorem checkS_calls (s : StS) (A A2 : Option Addr) (c c2 : Nat) (m : Int) (w : World) (hA : StAt w A c A2 c2 s) (hok : OkC s) (hm : w.cell? ⟨0, 0, none⟩ = some (.int .i64 m)) :
    Calls Tryd.prog 35 #[.agg #[.slice A s.boxes.length c, .slice A2 s.spool.length c2]] w fun e w' => ChkOk w s e w' := by
  have hb : Below w.heap.size w (w.alloc (.cells #[.slice A s.boxes.length c, .slice A2 s.spool.length c2] 56)) := (Below.refl _ w).alloc (Nat.le_refl _) _
  have hX := Bk.new w [.slice A s.boxes.length c, .slice A2 s.spool.length c2] 56
  have hnc := hA.nb
  by_cases h1 : 5 < s.boxes.length ∨ 20 < s.spool.length
  · have hr : checkR s = 11 := by unfold checkR; rw [if_pos h1]
    have Hr := Lib.hid hr
    have Hb := Lib.hid hb
    have g1 := hok.nb
    have g2 := hok.ns
    clear hr hb hX hA hok
    by_cases h2 : 5 < s.boxes.length
    · have d2 : (5 : Int) < (s.boxes.length : Int) := by omega
      clear h1
      go_enter Tryd.func35, Tryd.ntmps35
      go_wp2_with fail
      go_ret
      exact ⟨by rw [Hr.out]; rfl, Hb.out⟩
    · have d2 : ¬ (5 : Int) < (s.boxes.length : Int) := by omega
      have h3 : 20 < s.spool.length := by omega
      have d3 : (20 : Int) < (s.spool.length : Int) := by omega
      clear h1
      go_enter Tryd.func35, Tryd.ntmps35
      go_wp2_with fail
      go_ret
      exact ⟨by rw [Hr.out]; rfl, Hb.out⟩
  · have h2 : ¬ 5 < s.boxes.length := fun h => h1 (.inl h)
    have h3 : ¬ 20 < s.spool.length := fun h => h1 (.inr h)
    have d2 : ¬ (5 : Int) < (s.boxes.length : Int) := by omega
    have d3 : ¬ (20 : Int) < (s.spool.length : Int) := by omega
    have hr : checkR s = if boxesB [] s.boxes = false then 11 else if spoolB s.spool = false then 11 else if 6000 < sizeR s then 11 else 0 := by unfold checkR; rw [if_neg h1]
    have Hr := Lib.hid hr
    have hm0 := cell_later hb hm
    have hbx := hA.bx.later hb
    have hes := hA.es.later hb
    have Hbx := Lib.hid hok.bx
    have Hsp := Lib.hid hok.sp
    have hchk := fun W hW hO => size_calls s A c (.slice A2 s.spool.length c2) W hW hO
    obtain ⟨l, sp⟩ := s
    simp only at *
    have Hck := Lib.hid hchk
    clear hr h1 hA hok hm hchk
    go_enter Tryd.func35, Tryd.ntmps35
    go_wp2_with fail
    generalize w.alloc (.cells #[.slice A l.length c, .slice A2 sp.length c2] 56) = w0 at *
    have hb00 := Lib.hid hb
    go_loopw [20] (fun i wr => ∃ k : Nat, k ≤ l.length ∧ i = .int .i64 k ∧ Hid (boxesB [] l = boxesB (l.take k) (l.drop k)) ∧ Hid (∀ b ∈ l.take k, boxB b = true) ∧ Below w0.heap.size w0 wr ∧ Hid (Below w.heap.size w wr)) (fun i _ => l.length - (intOf i).toNat)
    case atStart => exact ⟨0, Nat.zero_le _, rfl, Lib.hid rfl, Lib.hid (by simp), Below.refl _ _, Lib.hid hb⟩
    case round =>
      obtain ⟨k, hk, rfl, Hbb, Hall, hb0, Hb⟩ := hrel
      clear hb
      by_cases hlt : k < l.length
      · obtain ⟨g, off, Am, cm, rfl, c0, c1, c2', hcm, hms⟩ := hbx.later hb0 k l[k] (by simp [hlt])
        have hdr : l.drop k = l[k] :: l.drop (k + 1) := List.drop_eq_getElem_cons hlt
        have htk : l.take (k + 1) = l.take k ++ [l[k]] := by rw [List.take_succ_eq_append_getElem hlt]
        have hbk := Hbx.out l[k] (List.getElem_mem hlt)
        have hbb := Hbb.out
        have hall := Hall.out
        rw [hdr] at hbb
        have hk0 : (0 : Int) ≤ (k : Int) := by omega
        have hkn : (k : Int) < (l.length : Int) := by omega
        have hkc : (k : Int) ≤ (c : Int) := by omega
        have hlk : (l.take k).length = k := by rw [List.length_take]; omega
        have htk2 := hbx.take k
        generalize l[k] = b at *
        obtain ⟨nm, nx, ms⟩ := b
        simp only at c0 c1 c2' hms hbk hcm
        obtain ⟨hcm, _⟩ := hcm
        obtain ⟨q1, q2, q3⟩ := hbk
        have hstep : boxesB (l.take k) (⟨nm, nx, ms⟩ :: l.drop (k + 1)) = if boxB ⟨nm, nx, ms⟩ = true ∧ findR (l.take k) nm < 0 then boxesB (l.take k ++ [⟨nm, nx, ms⟩]) (l.drop (k + 1)) else false := rfl
        rw [hstep, ← htk] at hbb
        have hbA : Below wr.heap.size wr (wr.alloc (.cells #[.string nm, .int .i64 nx, .slice Am ms.length cm] 83)) := (Below.refl _ wr).alloc (Nat.le_refl _) _
        have hY := Bk.new wr [.string nm, .int .i64 nx, .slice Am ms.length cm] 83
        have hX1 := (hX.later hb0).later hbA
        have hb1 := hb0.trans (hbA.mono hb0.size)
        have Hb1 := Lib.hid (Hb.out.trans (hbA.mono Hb.out.size))
        have hms1 := hms.later hbA
        clear hdr hstep hms hbA hb0 Hb
        have hcx := hb1
        have y0 := hY.cell 0 _ rfl
        have y1 := hY.cell 1 _ rfl
        have y2 := hY.cell 2 _ rfl
        have x0 := hX1.cell 0 _ rfl
        have hkx : KX w0 ((wr.alloc (.cells #[.string nm, .int .i64 nx, .slice Am ms.length cm] 83)).drew) w.heap.size (.slice (some ⟨g, off, none⟩) l.length c) (.slice A2 sp.length c2) (some ⟨g, off, none⟩) l Am ms m :=
          KX.later ⟨x0, hX1.cell 1 _ rfl, hbx.later hb1, hms1, cell_later hb1 hm0, hb1⟩ (bel_drew _)
        have hbx1 := fun W (hW : KX w0 W w.heap.size (.slice (some ⟨g, off, none⟩) l.length c) (.slice A2 sp.length c2) (some ⟨g, off, none⟩) l Am ms m) => boxOk_calls ⟨nm, nx, ms⟩ Am cm W hW.ms q1 q2 q3
        have hfi := fun W (hW : KX w0 W w.heap.size (.slice (some ⟨g, off, none⟩) l.length c) (.slice A2 sp.length c2) (some ⟨g, off, none⟩) l Am ms m) => find_calls (l.take k) (some ⟨g, off, none⟩) c nm W (by omega) (hW.bx.take k)
        rw [hlk] at hfi
        simp only at hbx1
        have HKX := Lib.hid hkx
        have Hbx1 := Lib.hid hbx1
        have Hfi := Lib.hid hfi
        have Hsz := Lib.hid hb1.size
        clear hkx hbx1 hfi hX1 hY hms1 hcx hlk htk2
        go_wp2_with fail
        clear hb1 c0 c1 c2'
        by_cases hB : boxB ⟨nm, nx, ms⟩ = true
        · rw [hB] at Hbx1
          by_cases hF : findR (l.take k) nm < 0
          · rw [if_pos ⟨hB, hF⟩] at hbb
            have hall2 : ∀ b ∈ l.take (k + 1), boxB b = true := by
              intro b hb
              rw [htk] at hb
              rcases List.mem_append.1 hb with h | h
              · exact hall b h
              · simp at h
                rw [h]; exact hB
            have Hbb2 := Lib.hid hbb
            have Hall2 := Lib.hid hall2
            have hF2 : ¬ 0 ≤ findR (l.take k) nm := by omega
            clear hbb hall2 hall htk Hbb Hall hB
            generalize findR (l.take k) nm = q at *
            go_region_held3 (fun w' => w'.cell? ⟨wr.heap.size, 0, none⟩ = some (.string nm) ∧ w'.cell? ⟨wr.heap.size, 1, none⟩ = some (.int .i64 nx) ∧ w'.cell? ⟨wr.heap.size, 2, none⟩ = some (.slice Am ms.length cm) ∧ w'.cell? ⟨w.heap.size, 0, none⟩ = some (.slice (some ⟨g, off, none⟩) l.length c) ∧ KX w0 w' w.heap.size (.slice (some ⟨g, off, none⟩) l.length c) (.slice A2 sp.length c2) (some ⟨g, off, none⟩) l Am ms m) (first | exact hKK | exact ⟨y0, y1, y2, x0, HKX.out⟩)
            (first
              | (go_at_call 42; (with_reducible refine (keepX (w0 := w0) (b := w.heap.size) (q := wr.heap.size) (vx := .slice (some ⟨g, off, none⟩) l.length c) (v2 := .slice A2 sp.length c2) (y0 := .string nm) (y1 := .int .i64 nx) (y2 := .slice Am ms.length cm) (A := some ⟨g, off, none⟩) (Am := Am) (l := l) (ms := ms) (m := m) (Hbx1.out _) ?_).mono ?_); (first | assumption | exact hS); rintro e w9 ⟨rfl, hKK⟩)
              | (go_at_call 43; (with_reducible refine (keepX (w0 := w0) (b := w.heap.size) (q := wr.heap.size) (vx := .slice (some ⟨g, off, none⟩) l.length c) (v2 := .slice A2 sp.length c2) (y0 := .string nm) (y1 := .int .i64 nx) (y2 := .slice Am ms.length cm) (A := some ⟨g, off, none⟩) (Am := Am) (l := l) (ms := ms) (m := m) (Hfi.out _) hKK).mono ?_); clear hKK; rintro e w9 ⟨rfl, hKK⟩))
            have HK := Lib.hid hKK.2.2.2.2
            clear hKK
            go_wp2
            go_roundw
            case rel => exact ⟨k + 1, by omega, by go_num, Hbb2, Hall2, HK.out.bl, Lib.hid (hb00.out.trans (HK.out.bl.mono hb00.out.size))⟩
            case measure => simp [intOf]; omega
          · rw [if_neg (fun h => hF h.2)] at hbb
            have hrr := Hr.out
            rw [hbb, if_pos rfl] at hrr
            have Hrr := Lib.hid hrr
            have hF2 : 0 ≤ findR (l.take k) nm := by omega
            clear hbb hrr hall htk Hbb Hall hB Hr
            generalize findR (l.take k) nm = q at *
            go_region_held3 (fun w' => w'.cell? ⟨wr.heap.size, 0, none⟩ = some (.string nm) ∧ w'.cell? ⟨wr.heap.size, 1, none⟩ = some (.int .i64 nx) ∧ w'.cell? ⟨wr.heap.size, 2, none⟩ = some (.slice Am ms.length cm) ∧ w'.cell? ⟨w.heap.size, 0, none⟩ = some (.slice (some ⟨g, off, none⟩) l.length c) ∧ KX w0 w' w.heap.size (.slice (some ⟨g, off, none⟩) l.length c) (.slice A2 sp.length c2) (some ⟨g, off, none⟩) l Am ms m) (first | exact hKK | exact ⟨y0, y1, y2, x0, HKX.out⟩)
            (first
              | (go_at_call 42; (with_reducible refine (keepX (w0 := w0) (b := w.heap.size) (q := wr.heap.size) (vx := .slice (some ⟨g, off, none⟩) l.length c) (v2 := .slice A2 sp.length c2) (y0 := .string nm) (y1 := .int .i64 nx) (y2 := .slice Am ms.length cm) (A := some ⟨g, off, none⟩) (Am := Am) (l := l) (ms := ms) (m := m) (Hbx1.out _) ?_).mono ?_); (first | assumption | exact hS); rintro e w9 ⟨rfl, hKK⟩)
              | (go_at_call 43; (with_reducible refine (keepX (w0 := w0) (b := w.heap.size) (q := wr.heap.size) (vx := .slice (some ⟨g, off, none⟩) l.length c) (v2 := .slice A2 sp.length c2) (y0 := .string nm) (y1 := .int .i64 nx) (y2 := .slice Am ms.length cm) (A := some ⟨g, off, none⟩) (Am := Am) (l := l) (ms := ms) (m := m) (Hfi.out _) hKK).mono ?_); clear hKK; rintro e w9 ⟨rfl, hKK⟩))
            have HK := Lib.hid (hb00.out.trans (hKK.2.2.2.2.bl.mono hb00.out.size))
            clear hKK
            go_wp2
            go_ret
            exact ⟨by rw [Hrr.out]; rfl, HK.out⟩
        · rw [if_neg (fun h => hB h.1)] at hbb
          have hrr := Hr.out
          rw [hbb, if_pos rfl] at hrr
          have Hrr := Lib.hid hrr
          have hB2 : boxB ⟨nm, nx, ms⟩ = false := by simpa using hB
          rw [hB2] at Hbx1
          clear hbb hrr hall htk Hbb Hall hB hB2 Hr
          first | (go_region_with (go_at_call 42; refine (Hbx1.out _ HKX.out).mono ?_; rintro e w9 ⟨rfl, hb9⟩; have HK := Lib.hid (hb00.out.trans ((HKX.out.later hb9).bl.mono hb00.out.size)); clear hb9)) | fail
          all_goals
            go_wp2
            go_ret
            exact ⟨by rw [Hrr.out]; rfl, HK.out⟩
      · obtain rfl : k = l.length := by omega
        have hbb := Hbb.out
        rw [List.drop_length] at hbb
        have hbb2 : boxesB [] l = true := hbb
        have hrr := Hr.out
        rw [hbb2, if_neg (by simp)] at hrr
        have hall := Hall.out
        rw [List.take_length] at hall
        have hZ : OkZ ⟨l, sp⟩ := ⟨by show l.length ≤ 6; omega, fun b hb => by
          obtain ⟨g1, _, _, _, g2⟩ := boxB_all b (hall b hb)
          exact ⟨by omega, fun m hm => (g2 m hm).2.2.2.2⟩⟩
        have hX1 := hX.later hb0
        have x1 := hX1.cell 1 _ rfl
        have Hrr := Lib.hid hrr
        have HZ := Lib.hid hZ
        have Hb0 := Lib.hid hb0
        clear hbb hbb2 hrr hall hZ Hall Hbb Hr hb0
        go_wp2_with fail
        have hw := Hb0.out
        have Hes := Lib.hid (hes.later hw)
        have Hbx2 := Lib.hid (hbx.later hw)
        have Hm2 := Lib.hid (cell_later hw hm0)
        have HB2 := Lib.hid (hb00.out.trans (hw.mono hb00.out.size))
        have HX1 := Lib.hid hX1
        clear hw hX1 x1 hes hbx hm0 hX Hb hb00 Hb0 Hbx
        obtain ⟨W2, hW2⟩ : ∃ W2 : World, W2 = wr := ⟨_, rfl⟩
        rw [← hW2] at Hes Hbx2 Hm2 HB2 HX1
        have Hst := Lib.hid (show Below W2.heap.size W2 wr by rw [hW2]; exact Below.refl _ _)
        clear hW2
        go_loopw [42] (fun i wr => ∃ k : Nat, k ≤ sp.length ∧ i = .int .i64 k ∧ Hid (spoolB sp = spoolB (sp.drop k)) ∧ Hid (Below W2.heap.size W2 wr)) (fun i _ => sp.length - (intOf i).toNat)
        case atStart => exact ⟨0, Nat.zero_le _, rfl, Lib.hid rfl, Hst⟩
        case round =>
          obtain ⟨k, hk2, rfl, Hsb, Hb⟩ := hrel
          clear Hst
          by_cases hlt : k < sp.length
          · obtain ⟨g, off, rfl, c0, c1, c2', c3, c4, c5⟩ := Hes.out.later Hb.out k hlt
            have hdr : sp.drop k = sp[k] :: sp.drop (k + 1) := List.drop_eq_getElem_cons hlt
            have hsm := Hsp.out sp[k] (List.getElem_mem hlt)
            have hsb := Hsb.out
            rw [hdr] at hsb
            have hk0 : (0 : Int) ≤ (k : Int) := by omega
            have hkn : (k : Int) < (sp.length : Int) := by omega
            generalize sp[k] = x at *
            have hstep : spoolB (x :: sp.drop (k + 1)) = if x.kind = 6 ∧ formR x = 0 then spoolB (sp.drop (k + 1)) else false := rfl
            rw [hstep] at hsb
            have hb4 : Below wr.heap.size wr (wr.alloc (.cells (entCells x).toArray 63)) := (Below.refl _ wr).alloc (Nat.le_refl _) _
            have hb5 := Hb.out.trans (hb4.mono Hb.out.size)
            obtain ⟨s1, s2, s3⟩ := hsm
            have hfo := form_calls x m (wr.alloc (.cells (entCells x).toArray 63)) (by omega) (by omega) (by omega) (cell_later hb5 Hm2.out)
            have Hfo := Lib.hid hfo
            have Hb5 := Lib.hid hb5
            clear hdr hstep hb4 hb5 hfo Hsb
            unfold entCells entVal at Hfo
            unfold entCells at Hb5
            by_cases h6 : x.kind = 6
            · rw [h6] at c0 Hfo Hb5
              by_cases hf : formR x = 0
              · rw [if_pos ⟨h6, hf⟩] at hsb
                have Hsb2 := Lib.hid hsb
                rw [hf] at Hfo
                clear hsb h6 hf
                go_wp2_with (go_at_call 31; refine Hfo.out.mono ?_; rintro e w5 ⟨rfl, hb6⟩; have Hb7 := Lib.hid (Hb5.out.trans (hb6.mono Hb5.out.size)); clear hb6 Hb5 Hfo)
                go_roundw
                case rel => exact ⟨k + 1, by omega, by go_num, Hsb2, Hb7⟩
                case measure => simp [intOf]; omega
              · rw [if_neg (fun h => hf h.2)] at hsb
                have hrr := Hrr.out
                rw [hsb, if_pos rfl] at hrr
                have Hr2 := Lib.hid hrr
                have hne : (formR x != 0) = true := by simpa using hf
                generalize formR x = z at *
                clear hsb h6 hf hrr Hrr
                go_wp2_with (go_at_call 31; refine Hfo.out.mono ?_; rintro e w5 ⟨rfl, hb6⟩; have Hb7 := Lib.hid (HB2.out.trans ((Hb5.out.trans (hb6.mono Hb5.out.size)).mono HB2.out.size)); clear hb6 Hb5 Hfo)
                go_ret
                exact ⟨by rw [Hr2.out]; rfl, Hb7.out⟩
            · rw [if_neg (fun h => h6 h.1)] at hsb
              have hrr := Hrr.out
              rw [hsb, if_pos rfl] at hrr
              have Hr2 := Lib.hid hrr
              have hne : (x.kind != 6) = true := by simpa using h6
              have Hb7 := Lib.hid (HB2.out.trans (Hb5.out.mono HB2.out.size))
              clear hsb h6 hrr Hrr Hfo Hb5
              go_wp2_with fail
              go_ret
              exact ⟨by rw [Hr2.out]; rfl, Hb7.out⟩
          · obtain rfl : k = sp.length := by omega
            have hsb := Hsb.out
            rw [List.drop_length] at hsb
            have hsb2 : spoolB sp = true := hsb
            have hrr := Hrr.out
            rw [hsb2, if_neg (by simp)] at hrr
            have Hr2 := Lib.hid hrr
            have hX2 := HX1.out.later Hb.out
            have x0 := hX2.cell 0 _ rfl
            have x1 := hX2.cell 1 _ rfl
            have Hcs := Lib.hid (Hck.out wr (Hbx2.out.later Hb.out) HZ.out)
            have Hb7 := Lib.hid (HB2.out.trans (Hb.out.mono HB2.out.size))
            clear hsb hsb2 hrr Hrr hX2 Hsb Hb HB2 Hck HX1 Hbx2 Hes
            generalize sizeR ⟨l, sp⟩ = z at *
            go_wp2_with fail
            refine Hcs.out.mono ?_
            rintro e w5 ⟨rfl, hb6⟩
            have Hb8 := Lib.hid (Hb7.out.trans (hb6.mono Hb7.out.size))
            clear Hcs Hb7 hb6 x0 x1
            by_cases hz : 6000 < z
            · have hr3 := Hr2.out
              rw [if_pos hz] at hr3
              have Hr3 := Lib.hid hr3
              have hz2 : (6000 : Int) < (z : Int) := by omega
              clear hr3 Hr2
              go_wp2_with fail
              go_ret
              exact ⟨by rw [Hr3.out]; rfl, Hb8.out⟩
            · have hr3 := Hr2.out
              rw [if_neg hz] at hr3
              have Hr3 := Lib.hid hr3
              have hz2 : ¬ (6000 : Int) < (z : Int) := by omega
              clear hr3 Hr2
              go_wp2_with fail
              go_ret
              exact ⟨by rw [Hr3.out]; rfl, Hb8.out⟩
end Go.Proofs.YtpncahklapfoaaaDoor
