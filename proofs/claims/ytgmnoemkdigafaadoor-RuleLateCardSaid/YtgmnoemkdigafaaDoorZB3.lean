/- The reader of package who: quoted, bare, address: what they return, where they panic, and how far they read. -/
import Derived.Test.YtgmnoemkdigafaaDoorZB2
import Derived.RegionDies
namespace Go.Proofs.YtgmnoemkdigafaaDoor
open Go.RowKit

theorem must_quietX (W V : World) (n : Nat) (h : V = W.drewN n) : Calls Tryd.prog 86 #[.bool true] V fun e w'' => e = .returned (.tuple #[]) ∧ ∃ m, w'' = W.drewN m := by
  subst h; exact must_quiet W n
theorem must_quietD (p : Bool) (hp : p = true) (w : World) (n : Nat) : Calls Tryd.prog 86 #[.bool p] (w.drewN n) fun e w'' => e = .returned (.tuple #[]) ∧ ∃ m, w'' = w.drewN m := by
  subst hp; exact must_quiet w n
theorem must_noD (p : Bool) (hp : p = false) (w : World) : Calls Tryd.prog 86 #[.bool p] w fun e w' => e = .panicked formPanic ∧ w = w' := by
  subst hp; exact must_no w
theorem next_keep (s : ByteArray) (b k : Nat) (w0 w : World) (hs : s.size ≤ 100000) (h : RB w b s k) (hm : Mv b w0 w) (hk : k < s.size) :
    Calls Tryd.prog 87 #[.pointer (some ⟨b, 0, none⟩)] w fun e w' => e = .returned (.int .u8 s[k].toNat) ∧ RB w' b s k ∧ Mv b w0 w' :=
  (next_in s b k w hs h hk).mono fun _ _ ⟨he, n, hw⟩ => ⟨he, by rw [hw]; exact h.drewN n, by rw [hw]; exact hm.drewN n⟩
/-- What stands behind a quoted text's end; none: there is no end. -/
def quotedL : List UInt8 → Option (List UInt8)
  | [] => none
  | 34 :: l => some l
  | 92 :: _ :: l => quotedL l
  | 92 :: [] => none
  | _ :: l => quotedL l
/-- What a reading of a quoted text ends in. -/
def OkQ (w : World) (s : ByteArray) (b i : Nat) (R : Option (List UInt8)) (e : Ending) (w' : World) : Prop := match R with
  | some l => e = .returned (.tuple #[]) ∧ ∃ j, j ≤ s.size ∧ i < j ∧ (bs s).drop j = l ∧ RB w' b s j ∧ Mv b w w'
  | none => e = .panicked formPanic ∧ Mv b w w'
set_option maxRecDepth 100000 in
set_option maxHeartbeats 4000000 in
theorem quoted_calls (s : ByteArray) (b i : Nat) (w : World) (hs : s.size ≤ 100000) (h : RB w b s i) (hi : i < s.size) (R : Option (List UInt8)) (hR : quotedL ((bs s).drop (i + 1)) = R) :
    Calls Tryd.prog 92 #[.pointer (some ⟨b, 0, none⟩)] w fun e w' => OkQ w s b i R e w' := by
  go_enter Tryd.func92, Tryd.ntmps92
  have c0 := h.c0
  have c1 := h.c1
  have f1 := h.f1
  have hbl := h.lt
  go_wp2_with fail
  have h1 := h.step i
  have m1 : Mv b w (w.setCell ⟨b, 1, none⟩ (.int .i64 ((i : Int) + 1))) := (Mv.refl b w).set 1 _
  generalize w.setCell ⟨b, 1, none⟩ (.int .i64 ((i : Int) + 1)) = w1 at *
  clear h c0 c1 f1 hbl
  go_loopg [] (s.size + 1) (fun kq wr => ∃ k, k ≤ s.size ∧ i < k ∧ k + kq = s.size + i + 2 ∧ Hid (quotedL ((bs s).drop k) = R) ∧ RB wr b s k ∧ Mv b w wr)
  case atStart => exact ⟨i + 1, by omega, by omega, by omega, Lib.hid hR, h1, m1⟩
  case round =>
    obtain ⟨k, hk, hik, hsum, hq, hrb, hmv⟩ := hrel
    have Hsum := Lib.hid hsum
    have Hrb := Lib.hid hrb
    clear hsum hrb h1 m1
    have c0 := Hrb.out.c0
    have c1 := Hrb.out.c1
    have f1 := Hrb.out.f1
    have hbl := Hrb.out.lt
    by_cases hlt : k < s.size
    · rw [drop_step hlt] at hq
      by_cases h34 : s[k] = 34
      · have e1 : ((s[k].toNat : Int) == 34) = true := by rw [h34]; rfl
        rw [h34] at hq
        obtain rfl : R = some ((bs s).drop (k + 1)) := hq.out.symm
        clear hq h34
        go_wp2_with (go_at_call 87; (first | refine (next_in s b k _ hs Hrb.out hlt).mono ?_ | refine (next_in s b k _ hs (Hrb.out.drewN _) hlt).mono ?_); rintro e w' ⟨rfl, n, rfl⟩)
        go_end0
        exact ⟨rfl, k + 1, by omega, by omega, rfl, (Hrb.out.drewN _).step k, (hmv.drewN _).set 1 _⟩
      · have e1 : ((s[k].toNat : Int) == 34) = false := by rw [show (34 : Int) = ((34 : Nat) : Int) from rfl, byte_eq (by decide)]; simpa using h34
        by_cases h92 : s[k] = 92
        · have e2 : ((s[k].toNat : Int) == 92) = true := by rw [h92]; rfl
          by_cases hlt2 : k + 1 < s.size
          · have hq2 : Hid (quotedL ((bs s).drop (k + 2)) = R) := by
              have := hq.out
              rw [h92, drop_step hlt2] at this
              exact Lib.hid this
            clear hq h92 h34
            go_wp2_with (go_at_call 87; (first | refine (next_in s b k _ hs Hrb.out hlt).mono ?_ | refine (next_in s b k _ hs (Hrb.out.drewN _) hlt).mono ?_); rintro e w' ⟨rfl, n, rfl⟩)
            go_quiet (exact must_quietD _ (decide_eq_true (by omega)) _ _)
            go_wp2
            go_roundg (gk - 2)
            case measure => have := Hsum.out; omega
            case rel => exact ⟨k + 2, by omega, by omega, by have := Hsum.out; omega, hq2, (((Hrb.out.drewN _).step k).drewN _).step (k + 1), (((hmv.drewN _).set 1 _).drewN _).set 1 _⟩
          · have hr0 : R = none := by
              have := hq.out
              rw [h92, List.drop_of_length_le (by rw [bs_len]; omega)] at this
              exact this.symm
            subst hr0
            clear hq h92 h34
            go_wp2_with (go_at_call 87; (first | refine (next_in s b k _ hs Hrb.out hlt).mono ?_ | refine (next_in s b k _ hs (Hrb.out.drewN _) hlt).mono ?_); rintro e w' ⟨rfl, n, rfl⟩)
            go_region_dies
            all_goals
              refine (must_noD _ (decide_eq_false (by omega)) _).mono ?_
              rintro e w' ⟨rfl, rfl⟩
              exact ⟨rfl, rfl, ((hmv.drewN _).set 1 _).drew⟩
        · have e2 : ((s[k].toNat : Int) == 92) = false := by rw [show (92 : Int) = ((92 : Nat) : Int) from rfl, byte_eq (by decide)]; simpa using h92
          have hq2 : Hid (quotedL ((bs s).drop (k + 1)) = R) := by
            have := hq.out
            rw [quotedL] at this
            · exact Lib.hid this
            · exact h34
            · exact fun _ _ e _ => h92 e
            · exact fun e _ => h92 e
          clear hq h92 h34
          go_wp2_with (go_at_call 87; refine (next_keep s b k w _ hs Hrb.out hmv hlt).mono ?_; rintro e w' ⟨rfl, hr2, hm2⟩; clear c0 c1 f1 hbl; have c0 := hr2.c0; have c1 := hr2.c1; have f1 := hr2.f1; have hbl := hr2.lt; have Hrb := Lib.hid hr2; clear hr2; have hmv := hm2; clear hm2)
          go_quiet (exact must_quiet _ _)
          go_wp2
          go_roundg (gk - 1)
          case measure => have := Hsum.out; omega
          case rel => exact ⟨k + 1, by omega, by omega, by have := Hsum.out; omega, hq2, (Hrb.out.drewN _).step k, (hmv.drewN _).set 1 _⟩
    · obtain rfl : k = s.size := by omega
      rw [List.drop_of_length_le (by rw [bs_len]; omega)] at hq
      obtain rfl : R = none := hq.out.symm
      clear hq
      go_wp2_with (go_at_call 87; (first | refine (next_end s b _ Hrb.out).mono ?_ | refine (next_end s b _ (Hrb.out.drewN _)).mono ?_); rintro e w' ⟨rfl, n, rfl⟩)
      go_region_dies
      all_goals
        refine (must_no _).mono ?_
        rintro e w' ⟨rfl, rfl⟩
        exact ⟨rfl, rfl, (hmv.drewN _).drew⟩
end Go.Proofs.YtgmnoemkdigafaaDoor
