/- The helpers boxName and Entry of the statements: what they return. -/
import Derived.Test.YtpncahklapfoaaaDoorChore
import Derived.Test.YtpncahklapfoaaaDoorCut
import Derived.Test.YtpncahklapfoaaaDoorPick
import Derived.Test.YtpncahklapfoaaaDoorBlk
import Derived.Test.YtpncahklapfoaaaDoorFormOk
namespace Go.Proofs.YtpncahklapfoaaaDoor
open Go.RowKit
set_option linter.unusedVariables false

/-- The boxes' names. -/
def nmN : Nat → ByteArray
  | 0 => mkS [73, 78, 66, 79, 88]
  | 1 => mkS [119, 111, 114, 107]
  | 2 => mkS [106, 117, 110, 107]
  | 3 => mkS [97]
  | 4 => mkS [98]
  | _ => mkS [99]
def namesArr : Array Value := #[.string (nmN 0), .string (nmN 1), .string (nmN 2), .string (nmN 3), .string (nmN 4), .string (nmN 5)]
set_option maxRecDepth 100000 in
theorem boxName_calls (n : Int) (w : World) (hn : (Lit.int .i64 n).wf = true) :
    Calls Tryd.prog 52 #[.int .i64 n] w fun e w' => e = .returned (.string (nmN (pickN n 6))) ∧ w' = w.alloc (.cells namesArr 9) := by
  have hk := pickN_lt n 6 (by decide)
  have hp := picked_calls n 6 (w.alloc (.cells #[.string ⟨#[73, 78, 66, 79, 88]⟩, .string ⟨#[119, 111, 114, 107]⟩, .string ⟨#[106, 117, 110, 107]⟩, .string ⟨#[97]⟩, .string ⟨#[98]⟩, .string ⟨#[99]⟩] 9)) hn (by decide) (by decide)
  obtain ⟨k, hk2⟩ : ∃ k, pickN n 6 = k := ⟨_, rfl⟩
  rw [hk2] at hk hp ⊢
  have hc : (w.alloc (.cells #[.string ⟨#[73, 78, 66, 79, 88]⟩, .string ⟨#[119, 111, 114, 107]⟩, .string ⟨#[106, 117, 110, 107]⟩, .string ⟨#[97]⟩, .string ⟨#[98]⟩, .string ⟨#[99]⟩] 9)).cell? ⟨w.heap.size, 0 + k, none⟩ = some (.string (nmN k)) := by
    rw [World.cell?_alloc_at _ _ _ _ rfl, Nat.zero_add]
    match k, hk with
    | 0, _ => rfl
    | 1, _ => rfl
    | 2, _ => rfl
    | 3, _ => rfl
    | 4, _ => rfl
    | 5, _ => rfl
    | k + 6, h => omega
  have hc2 := hc
  rw [Nat.zero_add] at hc2
  have Hp := Lib.hid hp
  have hk3 : (k : Int) < 6 := by omega
  have hk4 : (0 : Int) ≤ (k : Int) := by omega
  clear hk2 hp hn
  obtain ⟨s, hs⟩ : ∃ s, nmN k = s := ⟨_, rfl⟩
  rw [hs] at hc hc2 ⊢
  clear hs
  show Calls _ _ _ _ fun e w' => _ ∧ w' = w.alloc (.cells #[.string ⟨#[73, 78, 66, 79, 88]⟩, .string ⟨#[119, 111, 114, 107]⟩, .string ⟨#[106, 117, 110, 107]⟩, .string ⟨#[97]⟩, .string ⟨#[98]⟩, .string ⟨#[99]⟩] 9)
  go_enter Tryd.func52, Tryd.ntmps52
  go_wp2_with fail
  refine Hp.out.mono ?_
  rintro e w1 ⟨rfl, rfl⟩
  go_wp2_with fail
  go_ret
  exact ⟨rfl, rfl⟩

/-- The entry that a chore makes. -/
def entC (c : Chr) : Ent :=
  match pickN c.kind 6 with
  | 0 => ⟨1, nmN (pickN c.box 6), 0, 0, ⟨#[]⟩, ⟨#[]⟩⟩
  | 1 => ⟨2, nmN (pickN c.box 6), 0, pickN c.flags 32, ⟨#[]⟩, cutS c.text 300⟩
  | 2 => ⟨3, nmN (pickN c.box 6), 1 + pickN c.uid 8, pickN c.flags 32, ⟨#[]⟩, ⟨#[]⟩⟩
  | 3 => ⟨4, nmN (pickN c.box 6), 0, 0, ⟨#[]⟩, ⟨#[]⟩⟩
  | 4 => ⟨5, nmN (pickN c.box 6), 1 + pickN c.uid 8, 0, nmN (pickN c.dst 6), ⟨#[]⟩⟩
  | _ => ⟨6, ⟨#[]⟩, 0, 0, mkS [97, 64, 98, 46, 99], cutS c.text 100⟩
set_option maxRecDepth 100000 in
set_option maxHeartbeats 2000000 in
theorem entry_calls (c : Chr) (w : World) (h1 : (Lit.int .i64 c.kind).wf = true) (h2 : (Lit.int .i64 c.box).wf = true) (h3 : (Lit.int .i64 c.uid).wf = true) (h4 : (Lit.int .i64 c.flags).wf = true) (h5 : (Lit.int .i64 c.dst).wf = true) (h6 : c.text.size ≤ 9223372036854775807) :
    Calls Tryd.prog 38 #[.agg #[.int .i64 c.kind, .int .i64 c.box, .int .i64 c.uid, .int .i64 c.flags, .int .i64 c.dst, .string c.text]] w fun e w' => e = .returned (entVal (entC c)) ∧ Below w.heap.size w w' := by
  have hk := pickN_lt c.kind 6 (by decide)
  obtain ⟨kd, bx, ud, fl, ds, tx⟩ := c
  simp only at h1 h2 h3 h4 h5 h6 hk ⊢
  have p1 := fun W => picked_calls kd 6 W h1 (by decide) (by decide)
  have p2 := fun W => boxName_calls bx W h2
  have p3 := fun W => picked_calls ud 8 W h3 (by decide) (by decide)
  have p4 := fun W => picked_calls fl 32 W h4 (by decide) (by decide)
  have p5 := fun W => boxName_calls ds W h5
  have p6 := fun W => cut_calls tx 300 (by decide) h6 W
  have p7 := fun W => cut_calls tx 100 (by decide) h6 W
  rw [show Int.toNat 300 = 300 from rfl] at p6
  rw [show Int.toNat 100 = 100 from rfl] at p7
  unfold entC
  simp only
  obtain ⟨k, hk2⟩ : ∃ k, pickN kd 6 = k := ⟨_, rfl⟩
  rw [hk2] at p1 hk ⊢
  have q3 := pickN_lt ud 8 (by decide)
  generalize pickN ud 8 = ku at *
  generalize pickN fl 32 = kf at *
  generalize nmN (pickN bx 6) = nb at *
  generalize nmN (pickN ds 6) = nd at *
  generalize cutS tx 300 = t3 at *
  generalize cutS tx 100 = t1 at *
  have P1 := Lib.hid p1
  have P2 := Lib.hid p2
  have P3 := Lib.hid p3
  have P4 := Lib.hid p4
  have P5 := Lib.hid p5
  have P6 := Lib.hid p6
  have P7 := Lib.hid p7
  clear p1 p2 p3 p4 p5 p6 p7 h1 h2 h3 h4 h5 h6 hk2
  match k, hk with
  | 0, _ =>
    go_enter Tryd.func38, Tryd.ntmps38
    go_wp2_with (first
      | (go_at_call 16; ((first | (with_reducible refine (P1.out _).mono ?_) | (with_reducible refine (P3.out _).mono ?_) | (with_reducible refine (P4.out _).mono ?_)); rintro e w' ⟨rfl, rfl⟩))
      | (go_at_call 52; ((first | (with_reducible refine (P2.out _).mono ?_) | (with_reducible refine (P5.out _).mono ?_)); rintro e w' ⟨rfl, rfl⟩))
      | (go_at_call 53; ((first | (with_reducible refine (P6.out _).mono ?_) | (with_reducible refine (P7.out _).mono ?_)); rintro e w' ⟨rfl, rfl⟩)))
    exact bodyPost_ret (v := entVal ⟨1, nb, 0, 0, ⟨#[]⟩, ⟨#[]⟩⟩) (by simp [results, Tryd.results38, go_sem, entVal]) rfl ⟨rfl, by repeat (first | exact Below.refl _ _ | (refine Below.setCell ?_ (by first | (simp; done) | (simp; omega)) _) | (refine Below.alloc ?_ (by first | (simp; done) | (simp; omega)) _))⟩
  | 1, _ =>
    go_enter Tryd.func38, Tryd.ntmps38
    go_wp2_with (first
      | (go_at_call 16; ((first | (with_reducible refine (P1.out _).mono ?_) | (with_reducible refine (P3.out _).mono ?_) | (with_reducible refine (P4.out _).mono ?_)); rintro e w' ⟨rfl, rfl⟩))
      | (go_at_call 52; ((first | (with_reducible refine (P2.out _).mono ?_) | (with_reducible refine (P5.out _).mono ?_)); rintro e w' ⟨rfl, rfl⟩))
      | (go_at_call 53; ((first | (with_reducible refine (P6.out _).mono ?_) | (with_reducible refine (P7.out _).mono ?_)); rintro e w' ⟨rfl, rfl⟩)))
    exact bodyPost_ret (v := entVal ⟨2, nb, 0, kf, ⟨#[]⟩, t3⟩) (by simp [results, Tryd.results38, go_sem, entVal]) rfl ⟨rfl, by repeat (first | exact Below.refl _ _ | (refine Below.setCell ?_ (by first | (simp; done) | (simp; omega)) _) | (refine Below.alloc ?_ (by first | (simp; done) | (simp; omega)) _))⟩
  | 2, _ =>
    go_enter Tryd.func38, Tryd.ntmps38
    go_wp2_with (first
      | (go_at_call 16; ((first | (with_reducible refine (P1.out _).mono ?_) | (with_reducible refine (P3.out _).mono ?_) | (with_reducible refine (P4.out _).mono ?_)); rintro e w' ⟨rfl, rfl⟩))
      | (go_at_call 52; ((first | (with_reducible refine (P2.out _).mono ?_) | (with_reducible refine (P5.out _).mono ?_)); rintro e w' ⟨rfl, rfl⟩))
      | (go_at_call 53; ((first | (with_reducible refine (P6.out _).mono ?_) | (with_reducible refine (P7.out _).mono ?_)); rintro e w' ⟨rfl, rfl⟩)))
    exact bodyPost_ret (v := entVal ⟨3, nb, 1 + ku, kf, ⟨#[]⟩, ⟨#[]⟩⟩) (by simp [results, Tryd.results38, go_sem, entVal]) rfl ⟨rfl, by repeat (first | exact Below.refl _ _ | (refine Below.setCell ?_ (by first | (simp; done) | (simp; omega)) _) | (refine Below.alloc ?_ (by first | (simp; done) | (simp; omega)) _))⟩
  | 3, _ =>
    go_enter Tryd.func38, Tryd.ntmps38
    go_wp2_with (first
      | (go_at_call 16; ((first | (with_reducible refine (P1.out _).mono ?_) | (with_reducible refine (P3.out _).mono ?_) | (with_reducible refine (P4.out _).mono ?_)); rintro e w' ⟨rfl, rfl⟩))
      | (go_at_call 52; ((first | (with_reducible refine (P2.out _).mono ?_) | (with_reducible refine (P5.out _).mono ?_)); rintro e w' ⟨rfl, rfl⟩))
      | (go_at_call 53; ((first | (with_reducible refine (P6.out _).mono ?_) | (with_reducible refine (P7.out _).mono ?_)); rintro e w' ⟨rfl, rfl⟩)))
    exact bodyPost_ret (v := entVal ⟨4, nb, 0, 0, ⟨#[]⟩, ⟨#[]⟩⟩) (by simp [results, Tryd.results38, go_sem, entVal]) rfl ⟨rfl, by repeat (first | exact Below.refl _ _ | (refine Below.setCell ?_ (by first | (simp; done) | (simp; omega)) _) | (refine Below.alloc ?_ (by first | (simp; done) | (simp; omega)) _))⟩
  | 4, _ =>
    go_enter Tryd.func38, Tryd.ntmps38
    go_wp2_with (first
      | (go_at_call 16; ((first | (with_reducible refine (P1.out _).mono ?_) | (with_reducible refine (P3.out _).mono ?_) | (with_reducible refine (P4.out _).mono ?_)); rintro e w' ⟨rfl, rfl⟩))
      | (go_at_call 52; ((first | (with_reducible refine (P2.out _).mono ?_) | (with_reducible refine (P5.out _).mono ?_)); rintro e w' ⟨rfl, rfl⟩))
      | (go_at_call 53; ((first | (with_reducible refine (P6.out _).mono ?_) | (with_reducible refine (P7.out _).mono ?_)); rintro e w' ⟨rfl, rfl⟩)))
    exact bodyPost_ret (v := entVal ⟨5, nb, 1 + ku, 0, nd, ⟨#[]⟩⟩) (by simp [results, Tryd.results38, go_sem, entVal]) rfl ⟨rfl, by repeat (first | exact Below.refl _ _ | (refine Below.setCell ?_ (by first | (simp; done) | (simp; omega)) _) | (refine Below.alloc ?_ (by first | (simp; done) | (simp; omega)) _))⟩
  | 5, _ =>
    go_enter Tryd.func38, Tryd.ntmps38
    go_wp2_with (first
      | (go_at_call 16; ((first | (with_reducible refine (P1.out _).mono ?_) | (with_reducible refine (P3.out _).mono ?_) | (with_reducible refine (P4.out _).mono ?_)); rintro e w' ⟨rfl, rfl⟩))
      | (go_at_call 52; ((first | (with_reducible refine (P2.out _).mono ?_) | (with_reducible refine (P5.out _).mono ?_)); rintro e w' ⟨rfl, rfl⟩))
      | (go_at_call 53; ((first | (with_reducible refine (P6.out _).mono ?_) | (with_reducible refine (P7.out _).mono ?_)); rintro e w' ⟨rfl, rfl⟩)))
    exact bodyPost_ret (v := entVal ⟨6, ⟨#[]⟩, 0, 0, mkS [97, 64, 98, 46, 99], t1⟩) (by simp [results, Tryd.results38, go_sem, entVal, mkS]) rfl ⟨rfl, by repeat (first | exact Below.refl _ _ | (refine Below.setCell ?_ (by first | (simp; done) | (simp; omega)) _) | (refine Below.alloc ?_ (by first | (simp; done) | (simp; omega)) _))⟩
  | k + 6, h => exact absurd h (by omega)
/-- The entries of so many chores. -/
def entsC (l : List Chr) (m : Nat) : List Ent := (l.take m).map entC
/-- The entries of a batch of raw numbers: one at least. -/
def batE (l : List Chr) : List Ent := if entsC l 10 = [] then [⟨4, nmN 0, 0, 0, ⟨#[]⟩, ⟨#[]⟩⟩] else entsC l 10
theorem entsC_len (l : List Chr) (m : Nat) : (entsC l m).length ≤ m := by unfold entsC; rw [List.length_map, List.length_take]; omega
theorem nmN_size : ∀ k, (nmN k).size ≤ 5
  | 0 => by decide
  | 1 => by decide
  | 2 => by decide
  | 3 => by decide
  | 4 => by decide
  | _ + 5 => by show (mkS [99]).size ≤ 5; decide
theorem nmN_name : ∀ k, nameR (bs (nmN k)) = 0
  | 0 => by decide
  | 1 => by decide
  | 2 => by decide
  | 3 => by decide
  | 4 => by decide
  | _ + 5 => by show nameR (bs (mkS [99])) = 0; decide
theorem oneL_abc : oneL (mkS [97, 64, 98, 46, 99]) = true := by decide +kernel
theorem entC_form (c : Chr) : formR (entC c) = 0 := by
  have q3 := pickN_lt c.uid 8 (by decide)
  have q4 := pickN_lt c.flags 32 (by decide)
  have hz : (ByteArray.mk #[]).size = 0 := rfl
  have h3 := cutS_size c.text 300
  have h1 := cutS_size c.text 100
  unfold entC
  generalize pickN c.uid 8 = ku at *
  generalize pickN c.flags 32 = kf at *
  have hn := nmN_name (pickN c.box 6)
  have hd := nmN_name (pickN c.dst 6)
  generalize nmN (pickN c.box 6) = nb at *
  generalize nmN (pickN c.dst 6) = nd at *
  split <;> (rw [formR_own _ (by simp [ownE])]; simp only; rw [if_neg (by omega), if_neg (by omega)]; simp [hn, hd, oneL_abc])
theorem entC_small (c : Chr) : SmE (entC c) := by
  have h := form_ok _ (entC_form c)
  exact ⟨by have := h.bx; omega, by have := h.ds; omega, by have := h.tx; omega⟩
theorem batE_form (l : List Chr) : ∀ e ∈ batE l, formR e = 0 := by
  intro e he
  unfold batE at he
  by_cases h : entsC l 10 = []
  · rw [if_pos h] at he
    simp at he
    subst he
    decide +kernel
  · rw [if_neg h] at he
    unfold entsC at he
    obtain ⟨c, _, rfl⟩ := List.mem_map.1 he
    exact entC_form c
theorem batE_small (l : List Chr) : ∀ e ∈ batE l, SmE e := fun e he => by
  have h := form_ok _ (batE_form l e he)
  exact ⟨by have := h.bx; omega, by have := h.ds; omega, by have := h.tx; omega⟩
theorem batE_len (l : List Chr) : 1 ≤ (batE l).length ∧ (batE l).length ≤ 10 := by
  unfold batE
  by_cases h : entsC l 10 = []
  · rw [if_pos h]; simp
  · rw [if_neg h]
    have := entsC_len l 10
    have := List.length_pos_iff.2 h
    omega
theorem formsR_all : ∀ (es : List Ent), (∀ e ∈ es, formR e = 0) → formsR es = 0
  | [], _ => rfl
  | e :: r, h => by
    rw [formsR_cons, if_neg (by rw [h e List.mem_cons_self]; simp)]
    exact formsR_all r fun x hx => h x (List.mem_cons_of_mem _ hx)
theorem bat_check (l : List Chr) (u : Int) : checkB (pickN u 3) (batE l) = 0 := by
  have h1 := pickN_lt u 3 (by decide)
  have h2 := batE_len l
  unfold checkB
  rw [if_neg (by omega), if_neg (by omega)]
  exact formsR_all _ (batE_form l)
end Go.Proofs.YtpncahklapfoaaaDoor
