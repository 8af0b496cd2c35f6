/- slices.IndexFunc and slices.DeleteFunc over mails, at box.apply's two closures. -/
import Derived.Test.YtbddahdkjngecaaDoorBoxOwn
import Derived.Deep.LoopGhost
import Derived.Laws.IdiomCopy
import Derived.Lib.SmallJoins
import Derived.Laws.Append
import Derived.Lib.SliceRun
namespace Go.Proofs.YtbddahdkjngecaaDoor
open Go.RowKit
set_option linter.unusedVariables false

/-- A predicate on mails, as a closure: what a call of it answers. -/
def PredM (f : FuncId) (lb : Array Value) (p : MailS → Bool) (w : World) (l : List MailS) : Prop :=
  ∀ (W : World) (m : MailS), m ∈ l → Below w.heap.size w W → Calls Tryd.prog f (#[.agg #[.int .i64 m.uid, .int .i64 m.flags, .string m.text]] ++ lb) W fun e w' => e = .returned (.bool (p m)) ∧ Below W.heap.size W w'
set_option maxRecDepth 100000 in
set_option maxHeartbeats 1000000 in
theorem del_pred (w : World) (l : List MailS) (hf : ∀ m ∈ l, 0 ≤ m.flags ∧ m.flags ≤ 31) : PredM 35 #[] delB w l := by
  intro W m hm hb
  have hd := delB_of m (hf m hm).1 (hf m hm).2
  have hbl : Below W.heap.size W (W.alloc (.cells #[.int .i64 m.uid, .int .i64 m.flags, .string m.text] 41)) := (Below.refl _ W).alloc (Nat.le_refl _) _
  show Calls _ _ #[.agg #[.int .i64 m.uid, .int .i64 m.flags, .string m.text]] _ _
  generalize delB m = d at *
  obtain ⟨u, f, t⟩ := m
  simp only at hd hbl ⊢
  have Hd := Lib.hid hd
  clear hd hf
  go_enter Tryd.func35, Tryd.ntmps35
  go_wp2
  go_ret
  exact ⟨by rw [← Hd.out]; rfl, hbl⟩
set_option maxRecDepth 100000 in
set_option maxHeartbeats 1000000 in
theorem uid_pred (w : World) (l : List MailS) (B : Nat) (u : Int) (hB : w.cell? ⟨B, 2, none⟩ = some (.int .i64 u)) : PredM 37 #[.pointer (some ⟨B, 0, none⟩)] (uidB u) w l := by
  intro W m hm hb
  have hc := cell_later hb hB
  have hbl : Below W.heap.size W (W.alloc (.cells #[.int .i64 m.uid, .int .i64 m.flags, .string m.text] 41)) := (Below.refl _ W).alloc (Nat.le_refl _) _
  have hc2 := cell_later hbl hc
  show Calls _ _ #[.agg #[.int .i64 m.uid, .int .i64 m.flags, .string m.text], .pointer (some ⟨B, 0, none⟩)] _ _
  obtain ⟨v, f, t⟩ := m
  simp only at hbl hc2 ⊢
  unfold uidB
  simp only
  go_enter Tryd.func37, Tryd.ntmps37
  go_wp2
  all_goals
    go_ret
    exact ⟨by first | rfl | simp_all | (congr 2; simp_all), hbl⟩
set_option maxRecDepth 100000 in
set_option maxHeartbeats 1000000 in
theorem idxM_calls (f : FuncId) (lb : Array Value) (p : MailS → Bool) (hent : ∀ args w, (callFunc f args).run Tryd.prog w = .ok (.enter f args) w) (l : List MailS) (A : Option Addr) (c : Nat) (w : World) (hl : l.length ≤ 9223372036854775807) (hA : MsAt w A l) (hp : PredM f lb p w l) :
    Calls Tryd.prog 36 #[.slice A l.length c, .func (.func f) #[] lb] w fun e w' => e = .returned (.int .i64 (idxR p l)) ∧ Below w.heap.size w w' := by
  have Hp := Lib.hid hp
  clear hp
  go_enter Tryd.func36, Tryd.ntmps36
  go_wp2
  go_loopw [5, 8] (fun _ i wr => ∃ k : Nat, k ≤ l.length ∧ i = .int .i64 k ∧ Hid (Below w.heap.size w wr) ∧ Hid (∀ j (hj : j < l.length), j < k → p l[j] = false)) (fun _ i _ => l.length - (intOf i).toNat)
  case atStart => exact ⟨0, Nat.zero_le _, rfl, Lib.hid (Below.refl _ _), Lib.hid (fun j _ hj => absurd hj (Nat.not_lt_zero _))⟩
  case round =>
    obtain ⟨k, hk, rfl, Hb, Hno⟩ := hrel
    by_cases hlt : k < l.length
    · obtain ⟨g, off, rfl, c0, c1, c2⟩ := hA.later Hb.out k l[k] (by simp [hlt])
      have h1 := Hp.out wr l[k] (List.getElem_mem hlt) Hb.out
      have hk0 : (0 : Int) ≤ (k : Int) := by omega
      have hkn : (k : Int) < (l.length : Int) := by omega
      obtain ⟨b, hbe⟩ : ∃ b, l[k] = b := ⟨_, rfl⟩
      rw [hbe] at c0 c1 c2 h1
      have Hbe := Lib.hid hbe
      clear hbe
      cases hq : p b with
      | true =>
        rw [hq] at h1
        have hfin : idxR p l = k := idxR_hit _ l k hlt (by rw [Hbe.out]; exact hq) Hno.out
        have Hf := Lib.hid hfin
        have H1 := Lib.hid h1
        clear hfin h1 hq
        obtain ⟨u, fl, t⟩ := b
        simp only at c0 c1 c2 H1
        go_wp2_with (go_at_fn f; refine H1.out.mono ?_; rintro e w' ⟨rfl, hb'⟩; have Hb2 := Lib.hid (Hb.out.trans (hb'.mono Hb.out.size)); clear hb' H1)
        go_ret
        exact ⟨by rw [Hf.out]; rfl, Hb2.out⟩
      | false =>
        rw [hq] at h1
        have hno : ∀ j (hj : j < l.length), j < k + 1 → p l[j] = false := by
          intro j hj hjk
          by_cases e : j = k
          · have h2 : l[j] = b := by rw [← Hbe.out]; simp only [e]
            rw [h2]; exact hq
          · exact Hno.out j hj (by omega)
        have Hn2 := Lib.hid hno
        have H1 := Lib.hid h1
        clear hno h1 hq
        obtain ⟨u, fl, t⟩ := b
        simp only at c0 c1 c2 H1
        go_wp2_with (go_at_fn f; refine H1.out.mono ?_; rintro e w' ⟨rfl, hb'⟩; have Hb2 := Lib.hid (Hb.out.trans (hb'.mono Hb.out.size)); clear hb' H1)
        go_roundw
        case rel => exact ⟨k + 1, by omega, by go_num, Hb2, Hn2⟩
        case measure => simp [intOf]; omega
    · obtain rfl : k = l.length := by omega
      have hfin : idxR p l = -1 := idxR_miss _ l fun j hj => Hno.out j hj hj
      have Hf := Lib.hid hfin
      clear hfin Hno hA
      go_wp2
      go_ret
      exact ⟨by rw [Hf.out]; rfl, Hb.out⟩
theorem ent_del : ∀ args w, (callFunc 35 args).run Tryd.prog w = .ok (.enter 35 args) w := enters_of Tryd.func35 (by kernel_rfl) rfl
theorem ent_uid : ∀ args w, (callFunc 37 args).run Tryd.prog w = .ok (.enter 37 args) w := enters_of Tryd.func37 (by kernel_rfl) rfl
theorem zero_mail : ∀ w, (zeroValue 41).run Tryd.prog w = .ok (.agg #[.int .i64 0, .int .i64 0, .string ⟨#[]⟩]) w := fun w => by kernel_rfl
theorem run_clear_mails (w : World) (b o n c : Nat) (hn : 0 < n) (hc : ∀ j, j < n * 3 → (w.cell? ⟨b, o + j, none⟩).isSome = true) (hf : ∀ j, j < n * 3 → w.frozen? ⟨b, o + j, none⟩ = false) :
    ∃ cs, ∀ ty, (Builtin.clear_ #[37] ty #[.slice (some ⟨b, o, none⟩) n c]).run Tryd.prog w = .ok (.tuple #[]) (w.setCells b o cs) := by
  have hlen : (Builtin.zeroCells (Value.agg #[.int .i64 0, .int .i64 0, .string ⟨#[]⟩]).cells n).toList.length = n * 3 := by
    rw [Array.length_toList, size_zeroCells]; rfl
  have hone : ∀ v ∈ (Builtin.zeroCells (Value.agg #[.int .i64 0, .int .i64 0, .string ⟨#[]⟩]).cells n).toList, v.oneCell' = true := by
    intro v hv
    simp [Builtin.zeroCells, Value.cells] at hv
    obtain ⟨a, ha, rfl⟩ := hv
    have h3 : a % 3 = 0 ∨ a % 3 = 1 ∨ a % 3 = 2 := by omega
    rcases h3 with h3 | h3 | h3 <;> rw [h3] <;> rfl
  refine ⟨(Builtin.zeroCells (Value.agg #[.int .i64 0, .int .i64 0, .string ⟨#[]⟩]).cells n).toList, fun ty => ?_⟩
  have hst := run_storeCells_cells (P := Tryd.prog) b o (Builtin.zeroCells (Value.agg #[.int .i64 0, .int .i64 0, .string ⟨#[]⟩]).cells n).toList 0 w (by rw [hlen]; simpa using hc) (by rw [hlen]; simpa using hf) hone
  simp only [Nat.add_zero] at hst
  obtain ⟨m, rfl⟩ : ∃ m, n = m + 1 := ⟨n - 1, by omega⟩
  simp [Builtin.clear_, run_underlying Tryd.underlying37, hst]
/-- The mails that are not deleted. -/
def keepM (l : List MailS) : List MailS := l.filter fun m => !delB m
theorem keepM_append (a b : List MailS) : keepM (a ++ b) = keepM a ++ keepM b := by simp [keepM]
section
variable {w : World} {base e size g n cap : Nat} {xs : List Value}
/-- A row is cut off. -/
theorem row_cut (h : w.ownsRow base e size (.slice (some ⟨g, 0, none⟩) n cap) n xs) (i : Nat) (hi : i ≤ n) : w.ownsRow base e size (.slice (some ⟨g, 0, none⟩) i cap) i (xs.take (i * size)) := by
  rcases h.2 with ⟨h1, _⟩ | ⟨g2, cap2, cur, h1, hb, hg, hn, hc, hcur, ht⟩
  · cases h1
  · obtain ⟨h2, _, rfl⟩ := Value.slice.inj h1
    obtain rfl : g = g2 := by injection h2 with h3; injection h3
    have hm : i * size ≤ n * size := Nat.mul_le_mul_right _ hi
    refine ⟨by rw [List.length_take, h.1]; omega, .inr ⟨g, cap, cur, rfl, hb, hg, by omega, hc, hcur, ?_⟩⟩
    rw [← ht, List.take_take, Nat.min_eq_left hm]
/-- What is written behind a row does not touch it. -/
theorem row_behind (vs : List Value) : ∀ (o : Nat) (w : World), w.ownsRow base e size (.slice (some ⟨g, 0, none⟩) n cap) n xs → n * size ≤ o → (w.setCells g o vs).ownsRow base e size (.slice (some ⟨g, 0, none⟩) n cap) n xs ∧ w.grownBy (w.setCells g o vs) (some g) := by
  induction vs with
  | nil => exact fun o w h _ => ⟨h, ⟨rfl, rfl, rfl, Nat.le_refl _, fun _ _ _ => rfl⟩⟩
  | cons v r ih =>
    intro o w h ho
    have h1 := h.stored o v
    rw [List.set_eq_of_length_le (by rw [h.1]; exact ho)] at h1
    have h2 := ih (o + 1) _ h1.1 (by omega)
    exact ⟨h2.1, grown_trans h1.2 h2.2 (.inl rfl)⟩
end
/-- An element of a row of mails is written. -/
theorem mail_set {w : World} {base g n c : Nat} {l : List MailS} (h : w.ownsRow base 41 3 (.slice (some ⟨g, 0, none⟩) n c) n (mailsCells l)) (hl : l.length = n) (i : Nat) (m : MailS) (hi : i < n) :
    (((w.setCell ⟨g, i * 3, none⟩ (.int .i64 m.uid)).setCell ⟨g, i * 3 + 1, none⟩ (.int .i64 m.flags)).setCell ⟨g, i * 3 + 2, none⟩ (.string m.text)).ownsRow base 41 3 (.slice (some ⟨g, 0, none⟩) n c) n (mailsCells (l.set i m)) := by
  have h3 := (((h.stored (i * 3 + 0) (.int .i64 m.uid)).1.stored (i * 3 + 1) (.int .i64 m.flags)).1.stored (i * 3 + 2) (.string m.text)).1
  have hx : l[i]? = some l[i] := by simp
  obtain ⟨x, hxe⟩ : ∃ x, l[i] = x := ⟨_, rfl⟩
  rw [hxe] at hx
  have e1 := flat_set mailCells 3 (fun _ => rfl) x ⟨m.uid, x.flags, x.text⟩ 0 (.int .i64 m.uid) (by decide) rfl l i hx
  have hx1 : (l.set i ⟨m.uid, x.flags, x.text⟩)[i]? = some ⟨m.uid, x.flags, x.text⟩ := by simp [show i < l.length by omega]
  have e2 := flat_set mailCells 3 (fun _ => rfl) (⟨m.uid, x.flags, x.text⟩ : MailS) ⟨m.uid, m.flags, x.text⟩ 1 (.int .i64 m.flags) (by decide) rfl _ i hx1
  have hx2 : ((l.set i ⟨m.uid, x.flags, x.text⟩).set i ⟨m.uid, m.flags, x.text⟩)[i]? = some (⟨m.uid, m.flags, x.text⟩ : MailS) := by simp [show i < l.length by omega]
  have e3 := flat_set mailCells 3 (fun _ => rfl) (⟨m.uid, m.flags, x.text⟩ : MailS) m 2 (.string m.text) (by decide) rfl _ i hx2
  have e4 : ((mailsCells l).set (i * 3 + 0) (.int .i64 m.uid)).set (i * 3 + 1) (.int .i64 m.flags) = mailsCells ((l.set i ⟨m.uid, x.flags, x.text⟩).set i ⟨m.uid, m.flags, x.text⟩) := by
    show ((l.flatMap mailCells).set (i * 3 + 0) _).set _ _ = _
    rw [e1, e2]; rfl
  rw [e4] at h3
  have e5 : (mailsCells ((l.set i ⟨m.uid, x.flags, x.text⟩).set i ⟨m.uid, m.flags, x.text⟩)).set (i * 3 + 2) (.string m.text) = mailsCells (l.set i m) := by
    show ((List.flatMap mailCells _)).set _ _ = _
    rw [e3]
    simp [mailsCells]
  rw [e5] at h3
  exact h3
/-- What DeleteFunc ends in. -/
def DelOk (w : World) (B : Nat) (v : Value) (ms : List MailS) (e : Ending) (w' : World) : Prop :=
  ∃ v', e = .returned v' ∧ w'.ownsRow B 41 3 v' (keepM ms).length (mailsCells (keepM ms)) ∧ w.grownBy w' v.ownBlock ∧ v'.ownBlock = v.ownBlock
set_option maxRecDepth 100000 in
set_option maxHeartbeats 1000000 in
theorem del_call (m : MailS) (h0 : 0 ≤ m.flags) (h1 : m.flags ≤ 31) (W : World) : Calls Tryd.prog 35 #[.agg #[.int .i64 m.uid, .int .i64 m.flags, .string m.text]] W fun e w' => e = .returned (.bool (delB m)) ∧ Below W.heap.size W w' := by
  have h := del_pred W [m] (fun x hx => by simp at hx; subst hx; exact ⟨h0, h1⟩) W m (by simp) (Below.refl _ _)
  exact h
set_option maxRecDepth 100000 in
set_option maxHeartbeats 4000000 in
theorem delFunc_calls (ms : List MailS) (v : Value) (B : Nat) (w : World) (hB : B ≤ w.heap.size) (hrow : w.ownsRow B 41 3 v ms.length (mailsCells ms)) (hf : ∀ m ∈ ms, 0 ≤ m.flags ∧ m.flags ≤ 31) (hl : ms.length ≤ 1000) :
    Calls Tryd.prog 34 #[v, .func (.func 35) #[] #[]] w fun e w' => DelOk w B v ms e w' := by
  obtain ⟨A, c, rfl⟩ := own_sliceE hrow
  have hms := ms_of_own hrow rfl
  have hix := idxM_calls 35 #[] delB ent_del ms A c w (by omega) hms (del_pred w ms hf)
  have hidx := idxR_lt delB ms
  by_cases hno : idxR delB ms < 0
  · have hall : keepM ms = ms := by
      unfold keepM
      rw [List.filter_eq_self]
      intro m hm
      cases hd : delB m with
      | false => rfl
      | true =>
        exfalso
        unfold idxR at hno
        have : ms.findIdx delB < ms.length := List.findIdx_lt_length_of_exists ⟨m, hm, hd⟩
        rw [if_pos this] at hno
        omega
    have h1 : idxR delB ms = -1 := by omega
    rw [h1] at hix
    have Hix := Lib.hid hix
    have Hall := Lib.hid hall
    have Hrow := Lib.hid hrow
    clear hix hall hms hrow h1 hidx hno hf
    go_enter Tryd.func34, Tryd.ntmps34
    go_wp2_with fail
    refine Hix.out.mono ?_
    rintro e w1 ⟨rfl, hb1⟩
    have Hb1 := Lib.hid hb1
    clear hb1
    go_wp2_with fail
    go_ret
    refine ⟨_, rfl, ?_, ?_, rfl⟩
    · rw [Hall.out]; exact row_later Hb1.out Hrow.out
    · exact ⟨Hb1.out.os, Hb1.out.tape, Hb1.out.output, Hb1.out.size, fun k hk _ => Hb1.out.block k hk⟩
  · obtain ⟨k0, hk0⟩ : ∃ k : Nat, idxR delB ms = k := ⟨(idxR delB ms).toNat, by omega⟩
    rw [hk0] at hix hidx
    have hkl : k0 < ms.length := by omega
    have hfx : ms.findIdx delB = k0 := by
      unfold idxR at hk0
      by_cases hlt : ms.findIdx delB < ms.length
      · rw [if_pos hlt] at hk0; omega
      · rw [if_neg hlt] at hk0; omega
    have hdel : delB ms[k0] = true := by
      have h := List.findIdx_getElem (p := delB) (xs := ms) (w := by rw [hfx]; exact hkl)
      simpa only [hfx] using h
    have hbef : ∀ j (hj : j < ms.length), j < k0 → delB ms[j] = false := fun j hj hjk => by
      have := List.not_of_lt_findIdx (p := delB) (xs := ms) (i := j) (by rw [hfx]; exact hjk)
      simpa using this
    have hK0 : keepM (ms.take (k0 + 1)) = ms.take k0 := by
      rw [List.take_succ_eq_append_getElem hkl, keepM_append]
      have e1 : keepM (ms.take k0) = ms.take k0 := by
        unfold keepM
        rw [List.filter_eq_self]
        intro m hm
        obtain ⟨j, hj, rfl⟩ := List.getElem_of_mem hm
        rw [List.length_take] at hj
        rw [List.getElem_take, hbef j (by omega) (by omega)]
        rfl
      have e2 : keepM [ms[k0]] = [] := by simp [keepM, hdel]
      rw [e1, e2, List.append_nil]
    obtain ⟨g, c', e⟩ := Joins.ownsRow_form hrow (by omega)
    obtain ⟨rfl, _, rfl⟩ := Value.slice.inj e
    have hcap := own_cap hrow
    have hstart : ms.take k0 ++ [ms[k0]] ++ ms.drop (k0 + 1) = ms := by
      rw [List.append_assoc, List.singleton_append, ← List.drop_eq_getElem_cons hkl, List.take_append_drop]
    have Hix := Lib.hid hix
    have Hrow := Lib.hid hrow
    have Hf := Lib.hid hf
    have HK0 := Lib.hid hK0
    have Hst := Lib.hid hstart
    have hk00 : ((k0 : Int) == -1) = false := by rw [beq_eq_false_iff_ne]; omega
    obtain ⟨n, hn⟩ : ∃ n, ms.length = n := ⟨_, rfl⟩
    have Hn := Lib.hid hn
    rw [hn] at Hix Hrow hkl hl hcap
    have hkn : k0 + 1 ≤ n := by omega
    obtain ⟨x0, hx0⟩ : ∃ x0, ms[k0] = x0 := ⟨_, rfl⟩
    rw [hx0] at Hst
    clear hix hrow hf hms hbef hdel hfx hK0 hstart hno hidx hk0 e hx0
    rw [hn]
    clear hn
    go_enter Tryd.func34, Tryd.ntmps34
    go_wp2_with fail
    refine Hix.out.mono ?_
    rintro e w1 ⟨rfl, hb1⟩
    have hg1 : w.grownBy w1 (some g) := ⟨hb1.os, hb1.tape, hb1.output, hb1.size, fun k hk _ => hb1.block k hk⟩
    have hr1 := row_later hb1 Hrow.out
    clear hb1 Hix Hrow
    go_wp2_with fail
    go_loopw [5, 6] (fun a b wr => ∃ (j : Nat) (mid : List MailS), j ≤ n ∧ a = .int .i64 ((keepM (ms.take j)).length : Nat) ∧ b = .int .i64 j ∧ mid.length + (keepM (ms.take j)).length = j ∧ 0 < mid.length ∧ wr.ownsRow B 41 3 (.slice (some ⟨g, 0, none⟩) n c) n (mailsCells (keepM (ms.take j) ++ mid ++ ms.drop j)) ∧ Hid (w.grownBy wr (some g))) (fun _ b _ => n - (intOf b).toNat)
    case atStart =>
      have hlt : (ms.take k0).length = k0 := by rw [List.length_take, Hn.out]; omega
      exact ⟨k0 + 1, [x0], hkn, by rw [HK0.out, hlt], by go_num, by rw [HK0.out, hlt]; simp; omega, by simp, by rw [HK0.out, Hst.out]; exact hr1, Lib.hid hg1⟩
    case round =>
      obtain ⟨j, mid, hj, rfl, rfl, hmid, hmp, hrow, Hg⟩ := hrel
      clear hg1 hr1
      have hsz := Hg.out.size
      by_cases hjn : j < n
      · have hjl : j < ms.length := by rw [Hn.out]; exact hjn
        have hdr : ms.drop j = ms[j] :: ms.drop (j + 1) := List.drop_eq_getElem_cons hjl
        have htk : keepM (ms.take (j + 1)) = keepM (ms.take j) ++ keepM [ms[j]] := by rw [List.take_succ_eq_append_getElem hjl, keepM_append]
        have hfl := Hf.out ms[j] (List.getElem_mem hjl)
        obtain ⟨m, hm⟩ : ∃ m, ms[j] = m := ⟨_, rfl⟩
        rw [hm] at hdr htk hfl
        obtain ⟨K, hK⟩ : ∃ K, keepM (ms.take j) = K := ⟨_, rfl⟩
        rw [hK] at htk hrow hmid ⊢
        rw [hdr] at hrow
        have hcl : (K ++ mid ++ m :: ms.drop (j + 1)).length = n := by
          rw [List.length_append, List.length_append, List.length_cons, List.length_drop, Hn.out]
          omega
        have hma := ms_of_own hrow hcl
        have hgj : (K ++ mid ++ m :: ms.drop (j + 1))[j]? = some m := by
          rw [List.getElem?_append_right (by simp; omega)]
          have : j - (K ++ mid).length = 0 := by simp; omega
          rw [this]; rfl
        obtain ⟨g2, off, e2, c0, c1, c2⟩ := hma j m hgj
        obtain ⟨rfl, rfl⟩ : g = g2 ∧ 0 = off := by injection e2 with e3; injection e3 with e4 e5; exact ⟨e4, e5⟩
        rw [Nat.zero_add] at c0 c1 c2
        have hbA : Below wr.heap.size wr (wr.alloc (.cells #[.int .i64 m.uid, .int .i64 m.flags, .string m.text] 41)) := (Below.refl _ wr).alloc (Nat.le_refl _) _
        have hX := Bk.new wr [.int .i64 m.uid, .int .i64 m.flags, .string m.text] 41
        have hdc := del_call m hfl.1 hfl.2 (wr.alloc (.cells #[.int .i64 m.uid, .int .i64 m.flags, .string m.text] 41))
        have hrA := row_later hbA hrow
        have hgA : w.grownBy (wr.alloc (.cells #[.int .i64 m.uid, .int .i64 m.flags, .string m.text] 41)) (some g) := grown_trans Hg.out (grown_of_below hbA) (.inr fun k e => by cases e)
        have hj0 : (0 : Int) ≤ (j : Int) := by omega
        have hjn2 : (j : Int) < (n : Int) := by omega
        have hi0 : (0 : Int) ≤ (K.length : Int) := by omega
        have hin : (K.length : Int) < (n : Int) := by omega
        obtain ⟨u, fl, t⟩ := m
        simp only at c0 c1 c2 hbA hX hdc hrA hgA
        have Hdc := Lib.hid hdc
        have Hdr := Lib.hid hdr
        have Htk := Lib.hid htk
        have HK := Lib.hid hK
        have Hcl := Lib.hid hcl
        have x0' := hX.cell 0 _ rfl
        have x1' := hX.cell 1 _ rfl
        have x2' := hX.cell 2 _ rfl
        clear hdc hdr htk hK hcl hma hgj e2 hm hrow hbA Hg
        go_wp2_with fail
        generalize wr.alloc (.cells #[.int .i64 u, .int .i64 fl, .string t] 41) = w2 at *
        refine Hdc.out.mono ?_
        rintro e w3 ⟨rfl, hb3⟩
        have hr3 := row_later hb3 hrA
        have hg3 := grown_trans hgA (grown_of_below hb3) (.inr fun k e => by cases e)
        have hX3 := hX.later hb3
        clear Hdc hb3 hrA hgA hX x0' x1' x2' c0 c1 c2
        cases hd : delB ⟨u, fl, t⟩ with
        | true =>
          have hk1 : keepM (ms.take (j + 1)) = K := by rw [Htk.out]; simp [keepM, hd]
          have Hk1 := Lib.hid hk1
          have Hg3 := Lib.hid hg3
          have Hr3 := Lib.hid hr3
          clear hk1 hd hg3 hr3 hX3
          go_wp2_with fail
          go_roundw
          case rel => exact ⟨j + 1, mid ++ [⟨u, fl, t⟩], by omega, by rw [Hk1.out], by go_num, by rw [Hk1.out]; simp; omega, by simp, by rw [Hk1.out]; have h := Hr3.out; simpa using h, Hg3⟩
          case measure => simp [intOf]; omega
        | false =>
          have hk1 : keepM (ms.take (j + 1)) = K ++ [⟨u, fl, t⟩] := by rw [Htk.out]; simp [keepM, hd]
          obtain ⟨y, mt, rfl⟩ : ∃ y mt, mid = y :: mt := by
            cases mid with
            | nil => simp at hmp
            | cons y mt => exact ⟨y, mt, rfl⟩
          have hset := mail_set hr3 Hcl.out K.length ⟨u, fl, t⟩ (by omega)
          have hse : (K ++ y :: mt ++ (⟨u, fl, t⟩ : MailS) :: ms.drop (j + 1)).set K.length ⟨u, fl, t⟩ = (K ++ [⟨u, fl, t⟩]) ++ (mt ++ [⟨u, fl, t⟩]) ++ ms.drop (j + 1) := by
            rw [List.append_assoc, List.set_append_right _ _ (Nat.le_refl _), Nat.sub_self]
            simp
          rw [hse] at hset
          have hy := ms_of_own hr3 Hcl.out K.length y (by simp)
          obtain ⟨g2, off, e2, d0, d1, d2⟩ := hy
          obtain ⟨rfl, rfl⟩ : g = g2 ∧ 0 = off := by injection e2 with e3; injection e3 with e4 e5; exact ⟨e4, e5⟩
          rw [Nat.zero_add] at d0 d1 d2
          have f0 := hr3.frozenAt (K.length * 3)
          have f1 := hr3.frozenAt (K.length * 3 + 1)
          have f2 := hr3.frozenAt (K.length * 3 + 2)
          have y0 := hX3.cell 0 _ rfl
          have y1 := hX3.cell 1 _ rfl
          have y2 := hX3.cell 2 _ rfl
          have hg4 := grown_trans (grown_trans (grown_trans hg3 (setCell_grown w3 g (K.length * 3) (.int .i64 u)) (.inl rfl)) (setCell_grown _ g (K.length * 3 + 1) (.int .i64 fl)) (.inl rfl)) (setCell_grown _ g (K.length * 3 + 2) (.string t)) (.inl rfl)
          have Hk1 := Lib.hid hk1
          have Hg4 := Lib.hid hg4
          have Hset := Lib.hid hset
          clear hk1 hd hg3 hr3 hX3 hset hse hg4 e2 Hcl
          simp only [List.length_cons] at hmid
          go_wp2_with fail
          go_roundw
          case rel => exact ⟨j + 1, mt ++ [⟨u, fl, t⟩], by omega, by rw [Hk1.out, List.length_append]; go_num, by go_num, by rw [Hk1.out]; simp; omega, by simp, by rw [Hk1.out]; exact Hset.out, Hg4⟩
          case measure => simp [intOf]; omega
      · obtain rfl : j = n := by omega
        have hfull : ms.take j = ms := List.take_of_length_le (by rw [Hn.out]; exact Nat.le_refl _)
        have hdr : ms.drop j = [] := List.drop_of_length_le (by rw [Hn.out]; exact Nat.le_refl _)
        rw [hfull, hdr, List.append_nil] at hrow
        rw [hfull] at hmid ⊢
        obtain ⟨K, hK⟩ : ∃ K, keepM ms = K := ⟨_, rfl⟩
        rw [hK] at hrow hmid ⊢
        have hi0 : (0 : Int) ≤ (K.length : Int) := by omega
        have hin : (K.length : Int) < (j : Int) := by omega
        have hic : (K.length : Int) ≤ (c : Int) := by omega
        have hjc : (j : Int) ≤ (c : Int) := by omega
        have hne : ¬ c = K.length := by omega
        have hcells : ∀ q, q < (j - K.length) * 3 → (wr.cell? ⟨g, K.length * 3 + q, none⟩).isSome = true := by
          intro q hq
          rw [hrow.cellAt _ (by omega), List.getElem?_eq_getElem (by rw [hrow.1]; omega)]
          rfl
        obtain ⟨cs, hcs⟩ := run_clear_mails wr g (K.length * 3) (j - K.length) (c - K.length) (by omega) hcells (fun q _ => hrow.frozenAt _)
        have hcut := row_behind cs (K.length * 3) wr (row_cut hrow K.length (by omega)) (Nat.le_refl _)
        have htk : (mailsCells (K ++ mid)).take (K.length * 3) = mailsCells K := by
          have e1 : mailsCells (K ++ mid) = mailsCells K ++ mailsCells mid := by simp [mailsCells]
          rw [e1, List.take_append_of_le_length (by rw [mailsCells_len]; exact Nat.le_refl _), List.take_of_length_le (by rw [mailsCells_len]; exact Nat.le_refl _)]
        rw [htk] at hcut
        have hgz := grown_trans Hg.out hcut.2 (.inl rfl)
        have HK := Lib.hid hK
        have Hgz := Lib.hid hgz
        have Hcut := Lib.hid hcut.1
        clear hfull hdr hrow hcells hcut htk hK hgz Hg
        go_wp2_with fail
        go_ret
        exact ⟨_, rfl, by rw [HK.out]; exact Hcut.out, Hgz.out, rfl⟩
end Go.Proofs.YtbddahdkjngecaaDoor
