/- box.box and box.size: what they answer. -/
import Derived.Test.YtpncahklapfoaaaDoorBoxFind
import Derived.Test.YtpncahklapfoaaaDoorRName
namespace Go.Proofs.YtpncahklapfoaaaDoor
open Go.RowKit
set_option linter.unusedVariables false

def boxVal (b : BoxS) (v : Value) : Value := .agg #[.string b.name, .int .i64 b.next, v]
set_option maxRecDepth 100000 in
set_option maxHeartbeats 2000000 in
theorem boxOk_calls (b : BoxS) (A : Option Addr) (c : Nat) (w : World) (hA : MsAt w A b.mails) (hn : b.name.size ≤ 9223372036854775807) (hl : b.mails.length ≤ 9223372036854775807) (ht : ∀ m ∈ b.mails, m.text.size ≤ 9223372036854775807) :
    Calls Tryd.prog 42 #[.agg #[.string b.name, .int .i64 b.next, .slice A b.mails.length c]] w fun e w' => e = .returned (.bool (boxB b)) ∧ Below w.heap.size w w' := by
  obtain ⟨s, t, ms⟩ := b
  simp only at hA hn hl ht ⊢
  have hb : Below w.heap.size w (w.alloc (.cells #[.string s, .int .i64 t, .slice A ms.length c] 83)) := (Below.refl _ w).alloc (Nat.le_refl _) _
  have hX := Bk.new w [.string s, .int .i64 t, .slice A ms.length c] 83
  have hnm := fun W => rname_calls s W hn
  have hr : boxB ⟨s, t, ms⟩ = if nameR (bs s) ≠ 0 ∨ t < 1 ∨ 1048577 < t ∨ 30 < ms.length then false else mailsB t 0 ms := rfl
  generalize nameR (bs s) = z at *
  have Hnm := Lib.hid hnm
  have Ht := Lib.hid ht
  clear hnm ht
  by_cases hc : z ≠ 0 ∨ t < 1 ∨ 1048577 < t ∨ 30 < ms.length
  · rw [if_pos hc] at hr
    have Hr := Lib.hid hr
    have Hb := Lib.hid hb
    clear hr hb hA hX
    have d0 : z = 0 ∨ (z != 0) = true := by
      by_cases h : z = 0
      · exact .inl h
      · exact .inr (by simpa using h)
    rcases d0 with d0 | d0
    · subst d0
      by_cases h1 : t < 1
      · clear hc
        go_enter Tryd.func42, Tryd.ntmps42
        go_wp2_with (go_at_call 40; refine (Hnm.out _).mono ?_; rintro e w' ⟨rfl, rfl⟩)
        go_ret
        exact ⟨by rw [Hr.out]; rfl, Hb.out⟩
      · by_cases h2 : 1048577 < t
        · clear hc
          go_enter Tryd.func42, Tryd.ntmps42
          go_wp2_with (go_at_call 40; refine (Hnm.out _).mono ?_; rintro e w' ⟨rfl, rfl⟩)
          go_ret
          exact ⟨by rw [Hr.out]; rfl, Hb.out⟩
        · have h3 : 30 < ms.length := by omega
          have d3 : (30 : Int) < (ms.length : Int) := by omega
          clear hc
          go_enter Tryd.func42, Tryd.ntmps42
          go_wp2_with (go_at_call 40; refine (Hnm.out _).mono ?_; rintro e w' ⟨rfl, rfl⟩)
          go_ret
          exact ⟨by rw [Hr.out]; rfl, Hb.out⟩
    · clear hc
      go_enter Tryd.func42, Tryd.ntmps42
      go_wp2_with (go_at_call 40; refine (Hnm.out _).mono ?_; rintro e w' ⟨rfl, rfl⟩)
      go_ret
      exact ⟨by rw [Hr.out]; rfl, Hb.out⟩
  · rw [if_neg hc] at hr
    have hz : z = 0 := Decidable.not_not.1 fun h => hc (.inl h)
    subst hz
    have h1 : ¬ t < 1 := fun h => hc (.inr (.inl h))
    have h2 : ¬ 1048577 < t := fun h => hc (.inr (.inr (.inl h)))
    have h3 : ¬ 30 < ms.length := fun h => hc (.inr (.inr (.inr h)))
    have d3 : ¬ (30 : Int) < (ms.length : Int) := by omega
    have Hr := Lib.hid hr
    clear hr hc
    have hA0 := hA.later hb
    go_enter Tryd.func42, Tryd.ntmps42
    go_wp2_with (go_at_call 40; refine (Hnm.out _).mono ?_; rintro e w' ⟨rfl, rfl⟩)
    generalize w.alloc (.cells #[.string s, .int .i64 t, .slice A ms.length c] 83) = w0 at *
    go_loopw [3, 29] (fun la i wr => ∃ (k : Nat) (la' : Int), k ≤ ms.length ∧ la = .int .i64 la' ∧ i = .int .i64 k ∧ Hid (mailsB t 0 ms = mailsB t la' (ms.drop k)) ∧ Bk wr w.heap.size [.string s, .int .i64 t, .slice A ms.length c] 83 ∧ Hid (Below w.heap.size w wr)) (fun _ i _ => ms.length - (intOf i).toNat)
    case atStart => exact ⟨0, 0, Nat.zero_le _, rfl, rfl, Lib.hid rfl, hX, Lib.hid hb⟩
    case round =>
      obtain ⟨k, la', hk, rfl, rfl, Hm, hK, Hb⟩ := hrel
      clear hX hb hA0
      have b1 := hK.cell 1 _ rfl
      by_cases hlt : k < ms.length
      · obtain ⟨g, off, rfl, c0, c1, c2⟩ := hA.later Hb.out k ms[k] (by simp [hlt])
        have hdr : ms.drop k = ms[k] :: ms.drop (k + 1) := List.drop_eq_getElem_cons hlt
        have hts := Ht.out ms[k] (List.getElem_mem hlt)
        have hm := Hm.out
        rw [hdr] at hm
        have hk0 : (0 : Int) ≤ (k : Int) := by omega
        have hkn : (k : Int) < (ms.length : Int) := by omega
        generalize ms[k] = x at *
        obtain ⟨u, f, tx⟩ := x
        simp only at c0 c1 c2 hts
        have hstep : mailsB t la' (⟨u, f, tx⟩ :: ms.drop (k + 1)) = if u ≤ la' ∨ t ≤ u ∨ f < 0 ∨ 31 < f ∨ 2000 < tx.size then false else mailsB t u (ms.drop (k + 1)) := rfl
        rw [hstep] at hm
        have HK := Lib.hid (hK.alloc (.cells #[.int .i64 u, .int .i64 f, .string tx] 85))
        have hb1 := (hK.alloc (.cells #[.int .i64 u, .int .i64 f, .string tx] 85)).cell 1 _ rfl
        have Hb2 := Lib.hid (Hb.out.alloc Hb.out.size (.cells #[.int .i64 u, .int .i64 f, .string tx] 85))
        clear hK hdr hstep Hm hA
        by_cases hbad : u ≤ la' ∨ t ≤ u ∨ f < 0 ∨ 31 < f ∨ 2000 < tx.size
        · rw [if_pos hbad] at hm
          have hrr := Hr.out
          rw [hm] at hrr
          have Hrr := Lib.hid hrr
          clear hrr hm Hr
          have d5 : (2000 : Int) < (tx.size : Int) ∨ ¬ 2000 < tx.size := by omega
          by_cases q1 : u ≤ la'
          · clear hbad d5
            go_wp2_with fail
            go_ret
            exact ⟨by rw [Hrr.out]; rfl, Hb2.out⟩
          · by_cases q2 : t ≤ u
            · clear hbad d5
              go_wp2_with fail
              go_ret
              exact ⟨by rw [Hrr.out]; rfl, Hb2.out⟩
            · by_cases q3 : f < 0
              · clear hbad d5
                go_wp2_with fail
                go_ret
                exact ⟨by rw [Hrr.out]; rfl, Hb2.out⟩
              · by_cases q4 : 31 < f
                · clear hbad d5
                  go_wp2_with fail
                  go_ret
                  exact ⟨by rw [Hrr.out]; rfl, Hb2.out⟩
                · have q5 : 2000 < tx.size := by omega
                  have q6 : (2000 : Int) < (tx.size : Int) := by omega
                  clear hbad d5
                  go_wp2_with fail
                  go_ret
                  exact ⟨by rw [Hrr.out]; rfl, Hb2.out⟩
        · rw [if_neg hbad] at hm
          have Hm2 := Lib.hid hm
          have q1 : ¬ u ≤ la' := fun h => hbad (.inl h)
          have q2 : ¬ t ≤ u := fun h => hbad (.inr (.inl h))
          have q3 : ¬ f < 0 := fun h => hbad (.inr (.inr (.inl h)))
          have q4 : ¬ 31 < f := fun h => hbad (.inr (.inr (.inr (.inl h))))
          have q5 : ¬ 2000 < tx.size := fun h => hbad (.inr (.inr (.inr (.inr h))))
          have q6 : ¬ (2000 : Int) < (tx.size : Int) := by omega
          clear hm hbad
          go_wp2_with fail
          go_roundw
          case rel => exact ⟨k + 1, u, by omega, rfl, by go_num, Hm2, HK.out, Hb2⟩
          case measure => simp [intOf]; omega
      · obtain rfl : k = ms.length := by omega
        have hm := Hm.out
        rw [List.drop_length] at hm
        have hrr := Hr.out
        rw [hm] at hrr
        have Hrr := Lib.hid hrr
        clear hrr hm Hr Hm hA hK
        go_wp2_with fail
        go_ret
        exact ⟨by rw [Hrr.out]; rfl, Hb.out⟩
/-- Bounds under which the sizes are summed up. -/
structure OkZ (s : StS) : Prop where
  nb : s.boxes.length ≤ 6
  nm : ∀ b ∈ s.boxes, b.mails.length ≤ 31 ∧ ∀ m ∈ b.mails, m.text.size ≤ 2000
theorem OkS.z {s : StS} (h : OkS s) : OkZ s := ⟨by have := h.nb; omega, fun b hb => by
  obtain ⟨h1, _, _, _, h2⟩ := h.nm b hb
  exact ⟨by omega, fun m hm => (h2 m hm).2.2.2.2⟩⟩
theorem mailsZ_le : ∀ (l : List MailS), (∀ m ∈ l, m.text.size ≤ 2000) → mailsZ l ≤ l.length * 2000
  | [], _ => by simp [mailsZ]
  | m :: r, h => by
    have ih := mailsZ_le r (fun x hx => h x (List.mem_cons_of_mem _ hx))
    have h1 := h m List.mem_cons_self
    unfold mailsZ at ih ⊢
    rw [List.map_cons, List.sum_cons, List.length_cons]
    omega
theorem boxesZ_le : ∀ (l : List BoxS), (∀ b ∈ l, b.mails.length ≤ 31 ∧ ∀ m ∈ b.mails, m.text.size ≤ 2000) → boxesZ l ≤ l.length * 62000
  | [], _ => by simp [boxesZ]
  | b :: r, h => by
    have ih := boxesZ_le r (fun x hx => h x (List.mem_cons_of_mem _ hx))
    have h1 := h b List.mem_cons_self
    have h2 := mailsZ_le b.mails h1.2
    unfold boxesZ at ih ⊢
    rw [List.map_cons, List.sum_cons, List.length_cons]
    omega
theorem mailsZ_snoc (l : List MailS) (k : Nat) (h : k < l.length) : mailsZ (l.take (k + 1)) = mailsZ (l.take k) + l[k].text.size := by
  unfold mailsZ
  rw [List.take_succ_eq_append_getElem h, List.map_append, List.sum_append]
  simp
theorem boxesZ_snoc (l : List BoxS) (k : Nat) (h : k < l.length) : boxesZ (l.take (k + 1)) = boxesZ (l.take k) + mailsZ l[k].mails := by
  unfold boxesZ
  rw [List.take_succ_eq_append_getElem h, List.map_append, List.sum_append]
  simp
set_option maxRecDepth 100000 in
set_option maxHeartbeats 2000000 in
theorem size_calls (s : StS) (A : Option Addr) (c : Nat) (v2 : Value) (w : World) (hA : BxAt w A s.boxes) (hok : OkZ s) :
    Calls Tryd.prog 44 #[.agg #[.slice A s.boxes.length c, v2]] w fun e w' => e = .returned (.int .i64 (sizeR s)) ∧ Below w.heap.size w w' := by
  obtain ⟨l, sp⟩ := s
  unfold sizeR
  simp only at hA ⊢
  have hnb : l.length ≤ 6 := hok.nb
  have hnm : ∀ b ∈ l, b.mails.length ≤ 31 ∧ ∀ m ∈ b.mails, m.text.size ≤ 2000 := hok.nm
  have Hnm := Lib.hid hnm
  have hb : Below w.heap.size w (w.alloc (.cells #[.slice A l.length c, v2] 56)) := (Below.refl _ w).alloc (Nat.le_refl _) _
  clear hok hnm
  go_enter Tryd.func44, Tryd.ntmps44
  go_wp2_with fail
  generalize w.alloc (.cells #[.slice A l.length c, v2] 56) = w0 at *
  go_loopw [3, 11] (fun n i wr => ∃ k : Nat, k ≤ l.length ∧ n = .int .i64 (boxesZ (l.take k)) ∧ i = .int .i64 k ∧ Hid (Below w.heap.size w wr)) (fun _ i _ => l.length - (intOf i).toNat)
  case atStart => exact ⟨0, Nat.zero_le _, rfl, rfl, Lib.hid hb⟩
  case round =>
    obtain ⟨k, hk, rfl, rfl, Hb⟩ := hrel
    clear hb
    by_cases hlt : k < l.length
    · obtain ⟨g, off, Am, cm, rfl, c0, c1, c2, hcm, hms⟩ := hA.later Hb.out k l[k] (by simp [hlt])
      have hsn := boxesZ_snoc l k hlt
      have hbz := boxesZ_le (l.take k) (fun b hb => Hnm.out b (List.mem_of_mem_take hb))
      have hbl : (l.take k).length ≤ 6 := by rw [List.length_take]; omega
      have hbm := Hnm.out l[k] (List.getElem_mem hlt)
      generalize boxesZ (l.take k) = Z at *
      generalize (l.take k).length = q at *
      have hk0 : (0 : Int) ≤ (k : Int) := by omega
      have hkn : (k : Int) < (l.length : Int) := by omega
      generalize l[k] = b at *
      obtain ⟨nm, nx, ms⟩ := b
      simp only at c0 c1 c2 hms hsn hbm
      obtain ⟨hbm1, hbm2⟩ := hbm
      have Hbm := Lib.hid hbm2
      have Hsn := Lib.hid hsn
      clear hsn hbm2 hA
      have hb1 : Below w.heap.size w (wr.alloc (.cells #[.string nm, .int .i64 nx, .slice Am ms.length cm] 83)) := Hb.out.alloc Hb.out.size _
      have hX := Bk.new wr [.string nm, .int .i64 nx, .slice Am ms.length cm] 83
      have x2 := hX.cell 2 _ rfl
      have hms1 := hms.later ((Below.refl _ wr).alloc (Nat.le_refl _) (.cells #[.string nm, .int .i64 nx, .slice Am ms.length cm] 83))
      go_wp2_with fail
      generalize wr.alloc (.cells #[.string nm, .int .i64 nx, .slice Am ms.length cm] 83) = w1 at *
      clear hX x2 hms c0 c1 c2
      go_loopw [3, 18] (fun n i wq => ∃ j : Nat, j ≤ ms.length ∧ n = .int .i64 ((Z + mailsZ (ms.take j) : Nat) : Int) ∧ i = .int .i64 j ∧ Hid (Below w1.heap.size w1 wq)) (fun _ i _ => ms.length - (intOf i).toNat)
      case atStart => exact ⟨0, Nat.zero_le _, by simp [mailsZ], rfl, Lib.hid (Below.refl _ _)⟩
      case round =>
        obtain ⟨j, hj, rfl, rfl, Hq⟩ := hrel
        by_cases hjt : j < ms.length
        · obtain ⟨g2, off2, rfl, e0, e1, e2⟩ := hms1.later Hq.out j ms[j] (by simp [hjt])
          have hsm := mailsZ_snoc ms j hjt
          have hmz := mailsZ_le (ms.take j) (fun m hm => Hbm.out m (List.mem_of_mem_take hm))
          have hml : (ms.take j).length ≤ 31 := by rw [List.length_take]; omega
          have hmt := Hbm.out ms[j] (List.getElem_mem hjt)
          generalize mailsZ (ms.take j) = Y at *
          generalize (ms.take j).length = q2 at *
          generalize ms[j] = m at *
          obtain ⟨u, f, tx⟩ := m
          simp only at e0 e1 e2 hsm hmt
          have Hsm := Lib.hid hsm
          have hj0 : (0 : Int) ≤ (j : Int) := by omega
          have hjn : (j : Int) < (ms.length : Int) := by omega
          have Hq2 := Lib.hid (Hq.out.alloc Hq.out.size (.cells #[.int .i64 u, .int .i64 f, .string tx] 85))
          clear hsm hms1
          go_wp2_with fail
          go_roundw
          case rel => exact ⟨j + 1, by omega, by rw [Hsm.out]; go_num, by go_num, Hq2⟩
          case measure => simp [intOf]; omega
        · obtain rfl : j = ms.length := by omega
          have hfull : Z + mailsZ (ms.take ms.length) = boxesZ (l.take (k + 1)) := by rw [List.take_length, Hsn.out]
          have hb2 := hb1.trans (Hq.out.mono hb1.size)
          have Hb2 := Lib.hid hb2
          clear hb2 hb1 hms1 Hq
          rw [hfull]
          clear hfull
          go_wp2_with fail
          go_roundw
          case rel => exact ⟨k + 1, by omega, rfl, by go_num, Hb2⟩
          case measure => simp [intOf]; omega
    · obtain rfl : k = l.length := by omega
      rw [List.take_length]
      clear hA
      go_wp2_with fail
      go_ret
      exact ⟨rfl, Hb.out⟩
end Go.Proofs.YtpncahklapfoaaaDoor
