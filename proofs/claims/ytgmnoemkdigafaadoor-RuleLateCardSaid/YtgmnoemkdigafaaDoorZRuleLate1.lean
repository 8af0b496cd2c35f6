/- A require behind anything else is not allowed, nor is one of what there is not: for every script of sticks. -/
import Derived.Test.YtgmnoemkdigafaaDoorZB22
import Derived.Deep.DeepCutAuto
namespace Go.Proofs.YtgmnoemkdigafaaDoor
open Go.RowKit
set_option linter.unusedVariables false

set_option maxRecDepth 100000 in
set_option maxHeartbeats 8000000 in
theorem ruleLate_walk (l : List Stk) (A : Option Addr) (c : Nat) (m : Int) (w : World) (hl : l.length ≤ 140737488351232) (hsz : ∀ s ∈ l, StkSz s) (hA : StksAt w l A) (hm : w.cell? ⟨6, 0, none⟩ = some (.int .i64 m)) (hE : RulE w) :
    Calls Tryd.prog 11 #[.slice A l.length c] w fun e w' => e = .returned (.bool true) ∧ Below w.heap.size w w' := by
  have hsc := script_calls l A c w hsz hA (by omega) hE.1
  obtain ⟨hok, htk, hl1, hl5⟩ := script_facts l
  have hr1 := ruleR_late l
  have hr2 := ruleR_odd l
  generalize scriptN l = ss at *
  have Hsc := Lib.hid hsc
  have Hr1 := Lib.hid hr1
  have Hr2 := Lib.hid hr2
  have Htk := Lib.hid htk
  have Hok := Lib.hid hok
  have HE := Lib.hid hE
  have Hm := Lib.hid hm
  clear hsc hr1 hr2 htk hok hE hm hA hsz
  go_enter Tryd.func11, Tryd.ntmps11
  go_upto_region 2 with (go_at_call 18; refine Hsc.out.mono ?_; rintro e w1 ⟨A1, c1, rfl, hle, HC1, HS1, hb1⟩; have Hb1 := Lib.hid hb1; clear hb1)
  have s1 := Hb1.out.size
  have hg1 : ss ≠ [] → ∀ g off, A1 = some ⟨g, off, none⟩ → w.heap.size ≤ g ∧ some g ≠ Value.ownBlock (.slice none 0 0) := fun _ g off e => ⟨(HS1.out.2 g off none e).1, fun h => by cases h⟩
  have hy1 : ∀ W', AwayB w.heap.size (Value.ownBlock (.slice none 0 0)) w1 W' → CmdsAt W' ss A1 := fun W' h => HC1.out W' fun k a1 a2 => h k a1 a2 (fun e => by cases e)
  have hf1 : ∀ v' w2, Rowed CmdV 34 12 w.heap.size w2 v' ([] ++ ss) → w1.grownBy w2 (Value.ownBlock (.slice none 0 0)) → (v'.ownBlock = Value.ownBlock (.slice none 0 0) ∨ v'.ownBlock = some w1.heap.size) → ∃ g cap, v' = .slice (some ⟨g, 0, none⟩) ss.length cap ∧ w1.heap.size ≤ g ∧ g < w2.heap.size ∧ Hid (Rowed CmdV 34 12 w.heap.size w2 (.slice (some ⟨g, 0, none⟩) ss.length cap) ss) ∧ Hid (Below w1.heap.size w1 w2) := fun v' w2 hr hg ha => by
    rw [List.nil_append] at hr
    obtain ⟨g, cap, rfl, _, hsl, _⟩ := rowed_done hr (by intro e; rw [e] at hl1; simp at hl1)
    have hge : w1.heap.size ≤ g := by
      rcases ha with h | h
      · cases h
      · have e2 : g = w1.heap.size := Option.some.inj h
        omega
    exact ⟨g, cap, rfl, hge, (hsl.out.2 g 0 none rfl).2, Lib.hid hr, Lib.hid ((Below.refl _ w1).grown hg (Nat.le_refl _) (fun k e => by cases e))⟩
  have Hg1 := Lib.hid hg1
  have Hy1 := Lib.hid hy1
  have Hf1 := Lib.hid hf1
  have hlc : ([] : List Cmd).length + ss.length ≤ 1000 := by simp; omega
  have hn0 := Lib.hid HS1.out.1
  clear hg1 hy1 hf1
  go_wp2_with (at_builtin; refine wpList_append_cmds rfl (.const (.slice none 0 0)) (.tmp 10) rfl w.heap.size _ [] ss rfl Rowed.nil A1 c1 rfl hn0.out Hg1.out Hy1.out hlc s1 ?_; intro v' w2 hr2 hg2 ha2; obtain ⟨g2, cap2, rfl, HG2, hg2l, HR2, Hb2⟩ := Hf1.out _ w2 hr2 hg2 ha2; clear hr2 hg2 ha2)
  refine (requires_calls w2).mono ?_
  rintro e w3 ⟨q1, rfl, HV3, hb3⟩
  have Hb3 := Lib.hid hb3
  have s3 := hb3.size
  have s2 := Hb2.out.size
  have hb4 : Below w2.heap.size w2 (w3.alloc (.cells #[.int .i64 3, .slice none 0 0, .int .i64 0, .int .i64 0, .int .i64 0, .slice none 0 0, .slice none 0 0, .bool false, .int .i64 0, .slice none 0 0, .slice none 0 0, .slice none 0 0, .int .i64 1, .slice (some ⟨q1, 0, none⟩) 4 4, .int .i64 0, .int .i64 0, .int .i64 0, .slice none 0 0, .slice none 0 0, .bool false, .int .i64 0, .slice none 0 0, .slice none 0 0, .slice none 0 0] 34)) := bal hb3 _
  have hbn : Below w3.heap.size w3 (w3.alloc (.cells #[.int .i64 3, .slice none 0 0, .int .i64 0, .int .i64 0, .int .i64 0, .slice none 0 0, .slice none 0 0, .bool false, .int .i64 0, .slice none 0 0, .slice none 0 0, .slice none 0 0, .int .i64 1, .slice (some ⟨q1, 0, none⟩) 4 4, .int .i64 0, .int .i64 0, .int .i64 0, .slice none 0 0, .slice none 0 0, .bool false, .int .i64 0, .slice none 0 0, .slice none 0 0, .slice none 0 0] 34)) := bal (Below.refl _ w3) _
  have s4 : (w3.alloc (.cells #[.int .i64 3, .slice none 0 0, .int .i64 0, .int .i64 0, .int .i64 0, .slice none 0 0, .slice none 0 0, .bool false, .int .i64 0, .slice none 0 0, .slice none 0 0, .slice none 0 0, .int .i64 1, .slice (some ⟨q1, 0, none⟩) 4 4, .int .i64 0, .int .i64 0, .int .i64 0, .slice none 0 0, .slice none 0 0, .bool false, .int .i64 0, .slice none 0 0, .slice none 0 0, .slice none 0 0] 34)).heap.size = w3.heap.size + 1 := by simp
  have hP := Bk.new w3 [.int .i64 3, .slice none 0 0, .int .i64 0, .int .i64 0, .int .i64 0, .slice none 0 0, .slice none 0 0, .bool false, .int .i64 0, .slice none 0 0, .slice none 0 0, .slice none 0 0, .int .i64 1, .slice (some ⟨q1, 0, none⟩) 4 4, .int .i64 0, .int .i64 0, .int .i64 0, .slice none 0 0, .slice none 0 0, .bool false, .int .i64 0, .slice none 0 0, .slice none 0 0, .slice none 0 0] 34
  have hrow4 := HR2.out.later hb4
  have hy2 : ∀ W', AwayB w.heap.size (some g2) (w3.alloc (.cells #[.int .i64 3, .slice none 0 0, .int .i64 0, .int .i64 0, .int .i64 0, .slice none 0 0, .slice none 0 0, .bool false, .int .i64 0, .slice none 0 0, .slice none 0 0, .slice none 0 0, .int .i64 1, .slice (some ⟨q1, 0, none⟩) 4 4, .int .i64 0, .int .i64 0, .int .i64 0, .slice none 0 0, .slice none 0 0, .bool false, .int .i64 0, .slice none 0 0, .slice none 0 0, .slice none 0 0] 34)) W' → CmdsAt W' [keepC, reqC] (some ⟨w3.heap.size, 0, none⟩) := fun W' h => by
    have hk : ∀ k, w2.heap.size ≤ k → k < w3.heap.size + 1 → W'.heap[k]? = (w3.alloc (.cells #[.int .i64 3, .slice none 0 0, .int .i64 0, .int .i64 0, .int .i64 0, .slice none 0 0, .slice none 0 0, .bool false, .int .i64 0, .slice none 0 0, .slice none 0 0, .slice none 0 0, .int .i64 1, .slice (some ⟨q1, 0, none⟩) 4 4, .int .i64 0, .int .i64 0, .int .i64 0, .slice none 0 0, .slice none 0 0, .bool false, .int .i64 0, .slice none 0 0, .slice none 0 0, .slice none 0 0] 34)).heap[k]? := fun k a1 a2 => h k (by omega) (by omega) (fun e => by have e2 : k = g2 := Option.some.inj e; omega)
    refine cmdsAt_pair (cmdV_none 3) (HV3.out W' fun k a1 a2 => ?_) ((hk w3.heap.size (by omega) (by omega)).trans hP)
    rw [hk k a1 (by omega), hbn.block k a2]
  have hg3 : [keepC, reqC] ≠ [] → ∀ g off, some (⟨w3.heap.size, 0, none⟩ : Addr) = some ⟨g, off, none⟩ → w.heap.size ≤ g ∧ some g ≠ (some g2 : Option Nat) := fun _ g off e => by
    simp only [Option.some.injEq, Addr.mk.injEq, and_true] at e
    exact ⟨by omega, fun e2 => by have e3 : g = g2 := Option.some.inj e2; omega⟩
  have hf5 : ∀ v' w5, Rowed CmdV 34 12 w.heap.size w5 v' (ss ++ [keepC, reqC]) → (w3.alloc (.cells #[.int .i64 3, .slice none 0 0, .int .i64 0, .int .i64 0, .int .i64 0, .slice none 0 0, .slice none 0 0, .bool false, .int .i64 0, .slice none 0 0, .slice none 0 0, .slice none 0 0, .int .i64 1, .slice (some ⟨q1, 0, none⟩) 4 4, .int .i64 0, .int .i64 0, .int .i64 0, .slice none 0 0, .slice none 0 0, .bool false, .int .i64 0, .slice none 0 0, .slice none 0 0, .slice none 0 0] 34)).grownBy w5 (some g2) → ∃ g cap, v' = .slice (some ⟨g, 0, none⟩) (ss.length + 2) cap ∧ ss.length + 2 ≤ cap ∧ Hid (∀ W, New w.heap.size w5 W → CmdsAt W (ss ++ [keepC, reqC]) (some ⟨g, 0, none⟩)) ∧ Hid (Below w1.heap.size w1 w5) := fun v' w5 hr hg => by
    obtain ⟨g, cap, rfl, hle, hsl, hc⟩ := rowed_done hr (by simp)
    have e1 : (ss ++ [keepC, reqC]).length = ss.length + 2 := by simp
    rw [e1] at hle ⊢
    have hg2b : w1.heap.size ≤ g2 := HG2
    exact ⟨g, cap, rfl, hle, hc, Lib.hid ((btr Hb2.out hb4).grown hg (by omega) (fun k e => by have e2 : g2 = k := Option.some.inj e; omega))⟩
  have Hy2 := Lib.hid hy2
  have Hg3 := Lib.hid hg3
  have Hf5 := Lib.hid hf5
  have Hrow4 := Lib.hid hrow4
  have hlc2 : ss.length + [keepC, reqC].length ≤ 1000 := by simp; omega
  have hB4 : w.heap.size ≤ (w3.alloc (.cells #[.int .i64 3, .slice none 0 0, .int .i64 0, .int .i64 0, .int .i64 0, .slice none 0 0, .slice none 0 0, .bool false, .int .i64 0, .slice none 0 0, .slice none 0 0, .slice none 0 0, .int .i64 1, .slice (some ⟨q1, 0, none⟩) 4 4, .int .i64 0, .int .i64 0, .int .i64 0, .slice none 0 0, .slice none 0 0, .bool false, .int .i64 0, .slice none 0 0, .slice none 0 0, .slice none 0 0] 34)).heap.size := by omega
  clear hy2 hg3 hf5 hrow4 hP hbn hb4 hb3 s4 Hg1 Hy1 Hf1 hlc hn0
  go_upto_region 3 with (at_builtin; refine wpList_append_cmds rfl (.tmp 11) (.tmp 14) rfl w.heap.size _ ss [keepC, reqC] rfl Hrow4.out (some ⟨w3.heap.size, 0, none⟩) 2 rfl (fun h => by cases h) Hg3.out Hy2.out hlc2 hB4 ?_; intro v' w5 hr5 hg5 _; obtain ⟨g5, cap5, rfl, hle5, HC5, Hb5⟩ := Hf5.out _ w5 hr5 hg5; clear hr5 hg5)
  have hb5a : Below w1.heap.size w1 (w5.alloc (.cells #[.string ⟨#[118, 97, 114, 105, 97, 98, 108, 101, 115]⟩] 9)) := bal Hb5.out _
  have hV5 : ∀ W, New w1.heap.size (w5.alloc (.cells #[.string ⟨#[118, 97, 114, 105, 97, 98, 108, 101, 115]⟩] 9)) W → CmdV W varC [.int .i64 1, .slice (some ⟨w5.heap.size, 0, none⟩) 1 1, .int .i64 0, .int .i64 0, .int .i64 0, .slice none 0 0, .slice none 0 0, .bool false, .int .i64 0, .slice none 0 0, .slice none 0 0, .slice none 0 0] := fun W hN => cmdV_txt ((Bk.new w5 [.string ⟨#[118, 97, 114, 105, 97, 98, 108, 101, 115]⟩] 9).neu hN Hb5.out.size)
  have hs5 : (w5.alloc (.cells #[.string ⟨#[118, 97, 114, 105, 97, 98, 108, 101, 115]⟩] 9)).heap.size = w5.heap.size + 1 := by simp
  have HV5 := Lib.hid hV5
  have Hb5a := Lib.hid hb5a
  have Hs5 := Lib.hid hs5
  clear hV5 hb5a hs5 Hy2 Hg3 Hf5 Hrow4 hlc2 hB4 HV3 Hb3 s3 s2 HR2 Hb2
  go_upto_region 4 with (at_builtin; refine wpList_append_head rfl (.tmp 18) (.tmp 19) rfl varC [.int .i64 1, .slice (some ⟨w5.heap.size, 0, none⟩) 1 1, .int .i64 0, .int .i64 0, .int .i64 0, .slice none 0 0, .slice none 0 0, .bool false, .int .i64 0, .slice none 0 0, .slice none 0 0, .slice none 0 0] rfl ss A1 c1 Hb1.out Hb5a.out HV5.out HC1.out HS1.out (by omega) _ Hs5.out rfl rfl ?_; intro g6 cap6 w6 hle6 HS6 HC6 Hb6; have Hb56 := Lib.hid (btr (bal (Below.refl _ w5) _) Hb6.out); have Hb6 := Lib.hid (btr Hb5.out Hb56.out))
  have hE6 := Lib.hid (fun W (hW : Below w1.heap.size w1 W) => HE.out.later (btr Hb1.out hW))
  have hc1 := Lib.hid (fun W (hN : New w.heap.size w5 W) (hW : Below w1.heap.size w1 W) => rule_calls (ss ++ [keepC, reqC]) (okCs_of _ fun c hc => by
    rcases List.mem_append.1 hc with h | h
    · exact okCs_mem ss c Hok.out h
    · simp only [List.mem_cons, List.not_mem_nil, or_false] at h
      rcases h with rfl | rfl
      · unfold keepC okC; exact .inr ⟨by decide, by decide, by decide, rfl, rfl, rfl, rfl⟩
      · exact okC_req) (some ⟨g5, 0, none⟩) cap5 W (HC5.out W hN) (hE6.out W hW).1 (hE6.out W hW).2.1 (hE6.out W hW).2.2 m (cell_later (btr Hb1.out hW) Hm.out) (by simp; omega) (by simp; omega) (by
      rw [cmdsTk_append, List.length_append]
      have h1 := Htk.out
      have h2 : (cmdsTk [keepC, reqC]).length ≤ 100 := by decide
      omega))
  have hc2 := Lib.hid (fun W (hN : New w.heap.size w6 W) (hW : Below w1.heap.size w1 W) => rule_calls (varC :: ss) (by unfold okCs; exact ⟨by unfold varC okC; exact .inr ⟨by decide, by decide, by decide, rfl, rfl, rfl, rfl⟩, Hok.out⟩) (some ⟨g6, 0, none⟩) cap6 W (HC6.out W hN) (hE6.out W hW).1 (hE6.out W hW).2.1 (hE6.out W hW).2.2 m (cell_later (btr Hb1.out hW) Hm.out) (by simp; omega) (by simp; omega) (by
      rw [cmdsTk, List.length_append]
      have h1 := Htk.out
      have h2 : (cmdTk varC).length ≤ 100 := by decide
      omega))
  simp only [List.length_append, List.length_cons, List.length_nil] at hc1 hc2
  have h1 := Lib.hid (hc1.out w6 (New.of_below Hb56.out) Hb6.out)
  have hN67 := Lib.hid (fun W (hW : Below w6.heap.size w6 W) => hc2.out W (New.of_below hW) (btr Hb6.out hW))
  have hend := Lib.hid (fun W (hW : Below w6.heap.size w6 W) => btr (btr Hb1.out Hb6.out) hW)
  clear hc1 hc2 hE6 HC5 HC6 HC1 HS6 HS1 HV5 Hb5a Hs5 Hb56 Hb5
  rcases Hr1.out with hr | hr <;> rcases Hr2.out with hr' | hr'
  all_goals (
    rw [hr] at h1
    have h2 := Lib.hid (fun W (hW : Below w6.heap.size w6 W) => by have h := hN67.out W hW; rw [hr'] at h; exact h)
    clear hr hr' hN67
    go_upto_region 5 with (go_at_call 22; refine h1.out.mono ?_; rintro e w7 ⟨rfl, hb7⟩; have Hb7 := Lib.hid hb7; clear hb7)
    have h3 := Lib.hid (h2.out w7 Hb7.out)
    clear h2 h1
    go_wp2_with (go_at_call 22; refine h3.out.mono ?_; rintro e w8 ⟨rfl, hb8⟩; have Hb8 := Lib.hid (hend.out w8 (btr Hb7.out hb8)); clear hb8)
    go_ret
    exact ⟨rfl, Hb8.out⟩)
end Go.Proofs.YtgmnoemkdigafaaDoor
