/- A script that requires all is allowed; one that requires more than it must, too: for every script of sticks. -/
import Derived.Test.YtgmnoemkdigafaaDoorZB22
import Derived.Deep.DeepCutAuto
namespace Go.Proofs.YtgmnoemkdigafaaDoor
open Go.RowKit
set_option linter.unusedVariables false

set_option maxRecDepth 100000 in
set_option maxHeartbeats 8000000 in
theorem ruleAllowed_walk (l : List Stk) (A : Option Addr) (c : Nat) (m : Int) (w : World) (hl : l.length ≤ 140737488351232) (hsz : ∀ s ∈ l, StkSz s) (hA : StksAt w l A) (hm : w.cell? ⟨6, 0, none⟩ = some (.int .i64 m)) (hE : RulE w) :
    Calls Tryd.prog 9 #[.slice A l.length c] w fun e w' => e = .returned (.bool true) ∧ Below w.heap.size w w' := by
  have hsc := script_calls l A c w hsz hA (by omega) hE.1
  obtain ⟨hok, htk, hl1, hl5⟩ := script_facts l
  have hr1 := ruleR_script l
  have hr2 := ruleR_more l
  generalize scriptN l = ss at *
  have Hsc := Lib.hid hsc
  have Hr1 := Lib.hid hr1
  have Hr2 := Lib.hid hr2
  have Htk := Lib.hid htk
  have Hok := Lib.hid hok
  have HE := Lib.hid hE
  have Hm := Lib.hid hm
  clear hsc hr1 hr2 htk hok hE hm hA hsz
  go_enter Tryd.func9, Tryd.ntmps9
  go_upto_region 2 with (go_at_call 18; refine Hsc.out.mono ?_; rintro e w1 ⟨A1, c1, rfl, hle, HC1, HS1, hb1⟩; have Hb1 := Lib.hid hb1; clear hb1)
  have Hreq := Lib.hid (requires_calls w1)
  go_upto_region 3 with (first
    | (go_at_call 21; refine Hreq.out.mono ?_; rintro e w2 ⟨q1, rfl, HV1, hb2⟩; have Hb2 := Lib.hid hb2; clear hb2)
    | (at_builtin; refine wpList_append_head rfl _ _ rfl reqC [.int .i64 1, .slice (some ⟨q1, 0, none⟩) 4 4, .int .i64 0, .int .i64 0, .int .i64 0, .slice none 0 0, .slice none 0 0, .bool false, .int .i64 0, .slice none 0 0, .slice none 0 0, .slice none 0 0] rfl ss A1 c1 Hb1.out Hb2.out HV1.out HC1.out HS1.out (by omega) _ rfl rfl rfl ?_; intro g4 cap4 w4 hle4 HS4 HC4 Hb4; have Hb4 := Lib.hid (btr Hb2.out Hb4.out)))
  have hb14 := Lib.hid (btr Hb1.out Hb4.out)
  have hb5 : Below w4.heap.size w4 (w4.alloc (.cells #[.string ⟨#[92, 78, 111, 110, 101]⟩] 9)) := bal (Below.refl _ w4) _
  have hfl := flags_any (some ⟨w4.heap.size, 0, none⟩) 1 [mkS [92, 78, 111, 110, 101]] (w4.alloc (.cells #[.string ⟨#[92, 78, 111, 110, 101]⟩] 9)) (by simp) ((HE.out.later hb14.out).2.1.later hb5) (.inr ⟨w4.heap.size, 0, rfl, fun j hj => by
    have hj0 : j = 0 := by simp at hj; omega
    subst hj0
    exact (Bk.new w4 [.string ⟨#[92, 78, 111, 110, 101]⟩] 9).cell 0 _ rfl⟩)
  rw [show (flagsF 0 [mkS [92, 78, 111, 110, 101]]) = (0, 7) by decide] at hfl
  have Hfl := Lib.hid hfl
  have Hb5 := Lib.hid hb5
  have hc1 := Lib.hid (fun W (hW : Below w1.heap.size w1 W) => rule_calls ss Hok.out A1 c1 W (HC1.out W (New.of_below hW)) (HE.out.later (btr Hb1.out hW)).1 (HE.out.later (btr Hb1.out hW)).2.1 (HE.out.later (btr Hb1.out hW)).2.2 m (cell_later (btr Hb1.out hW) Hm.out) (by omega) hle (by have := Htk.out; omega))
  have hc2 := Lib.hid (fun W (hW : Below w4.heap.size w4 W) => rule_calls (reqC :: ss) (by unfold okCs; exact ⟨okC_req, Hok.out⟩) (some ⟨g4, 0, none⟩) cap4 W (HC4.out W (New.of_below hW)) (HE.out.later (btr hb14.out hW)).1 (HE.out.later (btr hb14.out hW)).2.1 (HE.out.later (btr hb14.out hW)).2.2 m (cell_later (btr hb14.out hW) Hm.out) (by simp; omega) hle4 (by rw [cmdsTk, List.length_append]; have := Htk.out; have := cmdTk_req; omega))
  rw [Hr1.out] at hc1
  simp only [List.length_cons] at hc2
  clear hfl hb5
  go_upto_region 4 with (go_at_call 14; refine Hfl.out.mono ?_; rintro e w6 ⟨rfl, rfl⟩)
  generalize w4.alloc (.cells #[.string ⟨#[92, 78, 111, 110, 101]⟩] 9) = w5 at *
  have h1 := Lib.hid (hc1.out w5 (btr Hb4.out Hb5.out))
  go_upto_region 5 with (go_at_call 22; refine h1.out.mono ?_; rintro e w6 ⟨rfl, hb6⟩; have Hb6 := Lib.hid (btr Hb5.out hb6); clear hb6)
  have h2 := Lib.hid (hc2.out w6 Hb6.out)
  rcases Hr2.out with hr | hr
  all_goals (
    rw [hr] at h2
    clear hr
    go_wp2_with (go_at_call 22; refine h2.out.mono ?_; rintro e w7 ⟨rfl, hb7⟩; have Hb7 := Lib.hid (btr hb14.out (btr Hb6.out hb7)); clear hb7)
    go_ret
    exact ⟨rfl, Hb7.out⟩)
end Go.Proofs.YtgmnoemkdigafaaDoor
