/- The function List of package who: what it returns for every text. -/
import Derived.Test.YtgmnoemkdigafaaDoorZB4
namespace Go.Proofs.YtgmnoemkdigafaaDoor
open Go.RowKit

/-- A list of addresses: N is the fuel of one address. -/
def listL (N : Nat) : Nat → List UInt8 → Option (List Adr)
  | 0, _ => none
  | n + 1, l => (adrL N true l).bind fun x =>
    if x.2.dropWhile blankB = [] then some [x.1]
    else if nextB (x.2.dropWhile blankB) = 44 then (listL N n (x.2.dropWhile blankB).tail).map (x.1 :: ·) else none
/-- A box of one cell. -/
def CB (W : World) (c : Nat) (t : TypeId) (v : Value) : Prop := W.heap[c]? = some (.cells #[v] t (0, 0))
theorem CB.c {W : World} {c : Nat} {t : TypeId} {v : Value} (h : CB W c t v) : W.cell? ⟨c, 0, none⟩ = some v := by simp [World.cell?, show W.heap[c]? = _ from h]
theorem CB.f {W : World} {c : Nat} {t : TypeId} {v : Value} (h : CB W c t v) : W.frozen? ⟨c, 0, none⟩ = false := by simp [World.frozen?, show W.heap[c]? = _ from h]
theorem CB.lt {W : World} {c : Nat} {t : TypeId} {v : Value} (h : CB W c t v) : c < W.heap.size := (Array.getElem?_eq_some_iff.1 h).1
theorem CB.mv {W W' : World} {b c : Nat} {t : TypeId} {v : Value} (h : CB W c t v) (hm : Mv b W W') (hne : c ≠ b) : CB W' c t v := (hm.block c h.lt hne).trans h
theorem CB.set {W : World} {c : Nat} {t : TypeId} {v : Value} (h : CB W c t v) (u : Value) : CB (W.setCell ⟨c, 0, none⟩ u) c t u := heap_setCell_at h 0 _
theorem CB.other {W : World} {b c : Nat} {t : TypeId} {v : Value} (h : CB W c t v) (hne : c ≠ b) (j : Nat) (u : Value) : CB (W.setCell ⟨b, j, none⟩ u) c t v :=
  (Below.heap_setCell _ _ _ c (fun e => by first | exact hne e | exact hne e.symm)).trans h
theorem CB.below {W W' : World} {c B : Nat} {t : TypeId} {v : Value} (h : CB W c t v) (hb : Below B W W') (hc : c < B) : CB W' c t v := (hb.block c hc).trans h
def adrCells (l : List Adr) : List Value := l.flatMap fun a => [.string a.loc, .string a.dom]
theorem adrCells_append (a b : List Adr) : adrCells (a ++ b) = adrCells a ++ adrCells b := by simp [adrCells]
theorem ownsRow_mv {w w' : World} {b base e size n : Nat} {v : Value} {xs : List Value} (hm : Mv b w w') (hb : b < base) (h : w.ownsRow base e size v n xs) : w'.ownsRow base e size v n xs := by
  refine ⟨h.1, ?_⟩
  rcases h.2 with hn | ⟨g, cap, cur, rfl, h1, h2, rest⟩
  · exact .inl hn
  · exact .inr ⟨g, cap, cur, rfl, h1, (hm.block g (Array.getElem?_eq_some_iff.1 h2).1 (by omega)).trans h2, rest⟩
/-- What List ends in. -/
def ListOk (w : World) (R : Option (List Adr)) (e : Ending) (w' : World) : Prop :=
  ∃ v err, e = .returned (.tuple #[v, .int .i64 err]) ∧ Below w.heap.size w w' ∧ match R with
    | none => v = .slice none 0 0 ∧ err = 3
    | some l => if 20 < l.length then v = .slice none 0 0 ∧ err = 5 else err = 0 ∧ w'.ownsRow w.heap.size 140 2 v l.length (adrCells l)

theorem bel_drewN {B : Nat} {x y : World} (h : Below B x y) (n : Nat) : Below B x (y.drewN n) := ⟨h.os, h.tape, h.output, h.size, h.block⟩
theorem own_pos {w : World} {base e size n : Nat} {v : Value} {xs : List Value} (h : w.ownsRow base e size v (n + 1) xs) : ∃ g c, v = .slice (some ⟨g, 0, none⟩) (n + 1) c := by
  rcases h.2 with ⟨_, h⟩ | ⟨g, cap, cur, h, _⟩
  · omega
  · exact ⟨g, cap, h⟩
theorem info_adr : (Tryd.prog.info? 140).map (fun i => (i.zero, i.size, i.bytes)) = some (some (.agg #[.string ByteArray.empty, .string ByteArray.empty]), 2, 32) := by kernel_rfl
theorem ownsRow_base {w : World} {base base2 e size n : Nat} {v : Value} {xs : List Value} (hb : base2 ≤ base) (h : w.ownsRow base e size v n xs) : w.ownsRow base2 e size v n xs := by
  refine ⟨h.1, ?_⟩
  rcases h.2 with hn | ⟨g, cap, cur, rfl, h1, rest⟩
  · exact .inl hn
  · exact .inr ⟨g, cap, cur, rfl, by omega, rest⟩
/-- The door, behind a return: the deferred closure finds nothing. -/
theorem door_idle {w w3 : World} {a : Act} {v : Value} {err : Int} {R : Option (List Adr)}
    (hd : a.defers = [{ target := Target.fn (Fn.func 83) #[.pointer (some ⟨w.heap.size, 0, none⟩), .pointer (some ⟨w.heap.size + 1, 0, none⟩)], args := #[] }])
    (h2 : a.tmps[2]? = some (.pointer (some ⟨w.heap.size, 0, none⟩))) (h3 : a.tmps[3]? = some (.pointer (some ⟨w.heap.size + 1, 0, none⟩)))
    (l3 : CB w3 w.heap.size 128 v) (e3 : CB w3 (w.heap.size + 1) 25 (.int .i64 err)) (b3 : Below w.heap.size w w3)
    (hok : match R with
      | none => v = .slice none 0 0 ∧ err = 3
      | some l => if 20 < l.length then v = .slice none 0 0 ∧ err = 5 else err = 0 ∧ w3.ownsRow w.heap.size 140 2 v l.length (adrCells l)) :
    bodyPostD Tryd.prog Tryd.f79 (fun e w' => ListOk w R e w') Exit.ret a w3 := by
  show Leaves _ _ _ _ _ _ _
  rw [hd]
  refine leaves_cons (f := 83) (args := #[.pointer (some ⟨w.heap.size, 0, none⟩), .pointer (some ⟨w.heap.size + 1, 0, none⟩)]) (by simp) (by simp [go_sem]) ?_
  refine (catch_idle ⟨w.heap.size, 0, none⟩ ⟨w.heap.size + 1, 0, none⟩ _).mono ?_
  rintro e u' w'' ⟨rfl, rfl, rfl⟩
  have q1 := l3.c
  have q2 := e3.c
  exact ⟨.tuple #[v, .int .i64 err], by simp [results, Tryd.results79, go_sem, h2, h3, q1, q2], _, _, rfl, b3, hok⟩
/-- The door, behind a panic: the deferred closure lays the results. -/
theorem door_panicked {w w3 : World} {a : Act} {v : Value}
    (hd : a.defers = [{ target := Target.fn (Fn.func 83) #[.pointer (some ⟨w.heap.size, 0, none⟩), .pointer (some ⟨w.heap.size + 1, 0, none⟩)], args := #[] }])
    (h2 : a.tmps[2]? = some (.pointer (some ⟨w.heap.size, 0, none⟩))) (h3 : a.tmps[3]? = some (.pointer (some ⟨w.heap.size + 1, 0, none⟩)))
    (l3 : CB w3 w.heap.size 128 v) (e3 : CB w3 (w.heap.size + 1) 25 (.int .i64 0)) (b3 : Below w.heap.size w w3) :
    bodyPostD Tryd.prog Tryd.f79 (fun e w' => ListOk w none e w') (Exit.panic formPanic) a w3 := by
  show Leaves _ _ _ _ _ _ _
  rw [hd]
  refine leaves_cons (f := 83) (args := #[.pointer (some ⟨w.heap.size, 0, none⟩), .pointer (some ⟨w.heap.size + 1, 0, none⟩)]) (by simp) (by simp [go_sem]) ?_
  refine (catch_panicking ⟨w.heap.size, 0, none⟩ ⟨w.heap.size + 1, 0, none⟩ v (.int .i64 0) _ l3.c l3.f e3.c e3.f (by simp)).mono ?_
  rintro e u' w'' ⟨rfl, rfl, rfl⟩
  have q1 := ((l3.set (.slice none 0 0)).other (b := w.heap.size + 1) (by omega) 0 (.int .i64 3)).c
  have q2 := ((e3.other (b := w.heap.size) (by omega) 0 (.slice none 0 0)).set (.int .i64 3)).c
  have bb : Below w.heap.size w ((w3.setCell ⟨w.heap.size, 0, none⟩ (.slice none 0 0)).setCell ⟨w.heap.size + 1, 0, none⟩ (.int .i64 3)).drew := ((b3.setCell (p := ⟨w.heap.size, 0, none⟩) (Nat.le_refl _) _).setCell (p := ⟨w.heap.size + 1, 0, none⟩) (Nat.le_succ _) _).drew
  exact ⟨.tuple #[.slice none 0 0, .int .i64 3], by simp [results, Tryd.results79, go_sem, h2, h3, q1, q2], _, _, rfl, bb, rfl, rfl⟩
set_option maxRecDepth 100000 in
set_option maxHeartbeats 4000000 in
theorem list_calls (s : ByteArray) (m : Int) (w : World) (hs : s.size ≤ 2000) (hm : w.cell? ⟨6, 0, none⟩ = some (.int .i64 m)) (R : Option (List Adr)) (hR : listL (s.size + 1) (s.size + 1) (bs s) = R) :
    Calls Tryd.prog 79 #[.string s] w fun e w' => ListOk w R e w' := by
  have hmf : ∀ (fn : Fn) (first cap : Array Value) (w : World), (Instr.makeFunc fn first cap).run Tryd.prog w = .ok (.func fn first cap) w := fun _ _ _ _ => rfl
  go_enter_defers Tryd.func79, Tryd.ntmps79
  go_wp2_with fail
  have hB : Below w.heap.size w (((w.alloc (.cells #[.slice none 0 0] 128)).alloc (.cells #[.int .i64 0] 25)).alloc (.cells #[.string s, .int .i64 0] 138)) := (((Below.refl _ w).alloc (Nat.le_refl _) _).alloc (by simp) _).alloc (by simp; omega) _
  have hr : RB (((w.alloc (.cells #[.slice none 0 0] 128)).alloc (.cells #[.int .i64 0] 25)).alloc (.cells #[.string s, .int .i64 0] 138)) (w.heap.size + 1 + 1) s 0 := by
    have h := World.alloc_heap_new ((w.alloc (.cells #[.slice none 0 0] 128)).alloc (.cells #[.int .i64 0] 25)) (.cells #[.string s, .int .i64 0] 138)
    simpa [RB] using h
  have hl : CB (((w.alloc (.cells #[.slice none 0 0] 128)).alloc (.cells #[.int .i64 0] 25)).alloc (.cells #[.string s, .int .i64 0] 138)) w.heap.size 128 (.slice none 0 0) := by
    have h := World.alloc_heap_new w (.cells #[.slice none 0 0] 128)
    exact ((((Below.refl (w.heap.size + 1) _).alloc (by simp) _).alloc (by simp) _).block w.heap.size (by omega)).trans h
  have he : CB (((w.alloc (.cells #[.slice none 0 0] 128)).alloc (.cells #[.int .i64 0] 25)).alloc (.cells #[.string s, .int .i64 0] 138)) (w.heap.size + 1) 25 (.int .i64 0) := by
    have h := World.alloc_heap_new (w.alloc (.cells #[.slice none 0 0] 128)) (.cells #[.int .i64 0] 25)
    rw [show (w.alloc (.cells #[.slice none 0 0] 128)).heap.size = w.heap.size + 1 by simp] at h
    exact (((Below.refl (w.heap.size + 1 + 1) _).alloc (by simp) _).block (w.heap.size + 1) (by omega)).trans h
  have hsz : (((w.alloc (.cells #[.slice none 0 0] 128)).alloc (.cells #[.int .i64 0] 25)).alloc (.cells #[.string s, .int .i64 0] 138)).heap.size = w.heap.size + 3 := by simp
  have hmw : 6 < w.heap.size := by
    obtain ⟨o, ho, _⟩ := cells_of_cell hm
    exact (Array.getElem?_eq_some_iff.1 ho).1
  have hm1 := cell_later hB hm
  generalize (((w.alloc (.cells #[.slice none 0 0] 128)).alloc (.cells #[.int .i64 0] 25)).alloc (.cells #[.string s, .int .i64 0] 138)) = w1 at *
  clear hm
  go_loopg [] (s.size + 1) (fun kq wr => ∃ (k : Nat) (ads : List Adr) (v : Value), k ≤ s.size ∧ s.size + 1 ≤ k + kq ∧ ads.length ≤ k ∧ RB wr (w.heap.size + 1 + 1) s k ∧ CB wr w.heap.size 128 v ∧ CB wr (w.heap.size + 1) 25 (.int .i64 0) ∧ wr.ownsRow (w.heap.size + 3) 140 2 v ads.length (adrCells ads) ∧ Below w.heap.size w wr ∧ w.heap.size + 3 ≤ wr.heap.size ∧ wr.cell? ⟨6, 0, none⟩ = some (.int .i64 m) ∧ Hid ((listL (s.size + 1) kq ((bs s).drop k)).map (ads ++ ·) = R))
  case atStart => exact ⟨0, [], _, Nat.zero_le _, by omega, Nat.zero_le _, hr, hl, he, World.ownsRow_nil _ _ _ _, hB, by omega, hm1, Lib.hid (by rw [List.drop_zero, hR]; cases R <;> simp)⟩
  case round =>
    obtain ⟨k, ads, v, hk, hsum, hal, hrb, hcl, hce, hrow, hbw, hszr, hmm, hrr⟩ := hrel
    clear hr hl he hB hm1 hsz
    obtain ⟨kq, rfl⟩ : ∃ kq, gk = kq + 1 := ⟨gk - 1, by omega⟩
    obtain ⟨q, hq⟩ : ∃ q, adrL (s.size + 1) true ((bs s).drop k) = q := ⟨_, rfl⟩
    have hr1 := hrr.out
    rw [listL, hq] at hr1
    have Hr1 := Lib.hid hr1
    clear hrr hr1
    have hg : 6 ≠ w.heap.size + 1 + 1 := by omega
    have lc := hcl.c
    have hrb0 : RB wr.drew (w.heap.size + 1 + 1) s k := hrb
    have hcl0 : CB wr.drew w.heap.size 128 v := hcl
    have hce0 : CB wr.drew (w.heap.size + 1) 25 (.int .i64 0) := hce
    have hbw0 := hbw.drew
    have hmm0 : wr.drew.cell? ⟨6, 0, none⟩ = some (.int .i64 m) := hmm
    have hsz0 : w.heap.size + 3 ≤ wr.drew.heap.size := hszr
    have Hc := Lib.hid (address_reads s (w.heap.size + 1 + 1) k m wr.drew (by omega) hrb0 hk hmm0 hg q hq)
    clear hq
    go_wp2_with fail
    cases q with
    | none =>
      refine wp_region_any (by kernel_rfl) ?_
      change wpAny _ _ _ _ _ _ _ (World.drew _)
      have hR0 : R = none := Hr1.out.symm
      subst hR0
      refine wpAny_ready (rs := [0, 1]) (by kernel_rfl) (by simp) ?_
      refine AllReady.cons rfl (fun K hK => ?_) (AllReady.cons rfl (fun K hK => ?_) AllReady.nil)
      · go_simp
        refine hK _ _ ?_
        clear hK K
        refine wpAny_ready (rs := [1]) (by kernel_rfl) (by simp) ?_
        refine AllReady.cons rfl (fun K hK => ?_) AllReady.nil
        go_simp
        refine hK _ _ ?_
        clear hK K
        refine wpAny_ready (rs := [2]) (by kernel_rfl) (by simp) ?_
        refine AllReady.cons rfl (fun K hK => ?_) AllReady.nil
        go_simp
        refine Hc.out.mono ?_
        rintro e w3 ⟨rfl, m3⟩
        have l3 := hcl0.mv m3 (by omega)
        have e3 := hce0.mv m3 (by omega)
        have b3 := hbw0.trans (m3.below (by omega) (by omega))
        exact door_panicked (by simp [go_sem]) rfl rfl l3 e3 b3
      · go_simp
        refine hK _ _ ?_
        clear hK K
        refine wpAny_ready (rs := [0, 2]) (by kernel_rfl) (by simp) ?_
        refine AllReady.cons rfl (fun K hK => ?_) (AllReady.cons rfl (fun K hK => ?_) AllReady.nil)
        · go_simp
          refine hK _ _ ?_
          clear hK K
          refine wpAny_ready (rs := [2]) (by kernel_rfl) (by simp) ?_
          refine AllReady.cons rfl (fun K hK => ?_) AllReady.nil
          go_simp
          refine Hc.out.mono ?_
          rintro e w3 ⟨rfl, m3⟩
          have l3 := hcl0.mv m3 (by omega)
          have e3 := hce0.mv m3 (by omega)
          have b3 := hbw0.trans (m3.below (by omega) (by omega))
          exact door_panicked (by simp [go_sem]) rfl rfl l3 e3 b3
        · go_simp
          refine Hc.out.mono ?_
          rintro e w3 ⟨rfl, m3⟩
          have l3 := hcl0.mv m3 (by omega)
          have e3 := hce0.mv m3 (by omega)
          have b3 := hbw0.trans (m3.below (by omega) (by omega))
          exact door_panicked (by simp [go_sem]) rfl rfl l3 e3 b3
    | some x =>
      obtain ⟨⟨al, ad⟩, l'⟩ := x
      have Hc2 := Hc.out
      dsimp only [OkA, adrVal] at Hc2
      have HC := Lib.hid Hc2
      clear Hc Hc2
      obtain ⟨i0, hi, hz0, hz1, hz2⟩ := info_parts info_adr
      refine wp_region_any (by kernel_rfl) ?_
      change wpAny _ _ _ _ _ _ _ (World.drew _)
      refine wpAny_ready (rs := [0, 1]) (by kernel_rfl) (by simp) ?_
      refine AllReady.cons rfl (fun K hK => ?p0) (AllReady.cons rfl (fun K hK => ?p1) AllReady.nil)
      case' p0 => (go_simp; refine hK _ _ ?_; clear hK K; refine wpAny_ready (rs := [1]) (by kernel_rfl) (by simp) ?_; refine AllReady.cons rfl (fun K hK => ?_) AllReady.nil; go_simp; refine hK _ _ ?_; clear hK K; refine wpAny_ready (rs := [2]) (by kernel_rfl) (by simp) ?_; refine AllReady.cons rfl (fun K hK => ?_) AllReady.nil; go_simp; refine HC.out.mono ?_; rintro e w3 ⟨rfl, j, hj, hkj, hdj, h3, m3⟩; have l3 := (hcl0.mv m3 (by omega)).c; have l3f := (hcl0.mv m3 (by omega)).f; have l3b := (hcl0.mv m3 (by omega)).lt; refine hK _ _ ?_; clear hK K; refine wpAny_ready (rs := [3]) (by kernel_rfl) (by simp) ?_; refine AllReady.cons rfl (fun K hK => ?_) AllReady.nil; go_simp; refine hK _ _ ?_; clear hK K; refine wpAny_ready (rs := [4]) (by kernel_rfl) (by simp) ?_; refine AllReady.cons rfl (fun K hK => ?_) AllReady.nil; rw [if_pos (by rfl)]; refine wp_append_own _ _ _ 128 rfl (w.heap.size + 3) 140 i0 (.agg #[.string ByteArray.empty, .string ByteArray.empty]) 2 32 Tryd.underlying128 hi hz0 hz1 hz2 rfl (by decide) v ads.length (adrCells ads) rfl ((ownsRow_mv m3 (by omega) hrow).alloc _) ⟨w3.heap.size, 0, none⟩ 1 1 [.string al, .string ad] rfl rfl (new_cells _ [.string al, .string ad] _) (by simp [Value.oneCell']) (by unfold maxLen; omega) (by omega) (by have := m3.size; simp; omega) (fun v' w5 hown' hgrow _ => ?_); obtain ⟨g', c', rfl⟩ := own_pos hown'; have hb5 : Below (w.heap.size + 3) w3 w5 := below_append (Below.refl _ w3) (by have := m3.size; omega) (ownsRow_mv m3 (by omega) hrow) hgrow; have l5 := (hcl0.mv m3 (by omega)).below hb5 (by omega); have lc5 := l5.c; have lf5 := l5.f; have lb5 := l5.lt; refine hK _ _ ?_; clear hK K; refine wpAny_ready (rs := [5]) (by kernel_rfl) (by simp) ?_; refine AllReady.cons rfl (fun K hK => ?_) AllReady.nil; go_simp; refine hK _ _ ?_; clear hK K; refine wpAny_done (by kernel_rfl) ?_ _)
      case' p1 => (go_simp; refine hK _ _ ?_; clear hK K; refine wpAny_ready (rs := [0, 2]) (by kernel_rfl) (by simp) ?_; refine AllReady.cons rfl (fun K hK => ?p2) (AllReady.cons rfl (fun K hK => ?p3) AllReady.nil))
      case' p2 => (go_simp; refine hK _ _ ?_; clear hK K; refine wpAny_ready (rs := [2]) (by kernel_rfl) (by simp) ?_; refine AllReady.cons rfl (fun K hK => ?_) AllReady.nil; go_simp; refine HC.out.mono ?_; rintro e w3 ⟨rfl, j, hj, hkj, hdj, h3, m3⟩; have l3 := (hcl0.mv m3 (by omega)).c; have l3f := (hcl0.mv m3 (by omega)).f; have l3b := (hcl0.mv m3 (by omega)).lt; refine hK _ _ ?_; clear hK K; refine wpAny_ready (rs := [3]) (by kernel_rfl) (by simp) ?_; refine AllReady.cons rfl (fun K hK => ?_) AllReady.nil; go_simp; refine hK _ _ ?_; clear hK K; refine wpAny_ready (rs := [4]) (by kernel_rfl) (by simp) ?_; refine AllReady.cons rfl (fun K hK => ?_) AllReady.nil; rw [if_pos (by rfl)]; refine wp_append_own _ _ _ 128 rfl (w.heap.size + 3) 140 i0 (.agg #[.string ByteArray.empty, .string ByteArray.empty]) 2 32 Tryd.underlying128 hi hz0 hz1 hz2 rfl (by decide) v ads.length (adrCells ads) rfl ((ownsRow_mv m3 (by omega) hrow).alloc _) ⟨w3.heap.size, 0, none⟩ 1 1 [.string al, .string ad] rfl rfl (new_cells _ [.string al, .string ad] _) (by simp [Value.oneCell']) (by unfold maxLen; omega) (by omega) (by have := m3.size; simp; omega) (fun v' w5 hown' hgrow _ => ?_); obtain ⟨g', c', rfl⟩ := own_pos hown'; have hb5 : Below (w.heap.size + 3) w3 w5 := below_append (Below.refl _ w3) (by have := m3.size; omega) (ownsRow_mv m3 (by omega) hrow) hgrow; have l5 := (hcl0.mv m3 (by omega)).below hb5 (by omega); have lc5 := l5.c; have lf5 := l5.f; have lb5 := l5.lt; refine hK _ _ ?_; clear hK K; refine wpAny_ready (rs := [5]) (by kernel_rfl) (by simp) ?_; refine AllReady.cons rfl (fun K hK => ?_) AllReady.nil; go_simp; refine hK _ _ ?_; clear hK K; refine wpAny_done (by kernel_rfl) ?_ _)
      case' p3 => (go_simp; refine HC.out.mono ?_; rintro e w3 ⟨rfl, j, hj, hkj, hdj, h3, m3⟩; have l3 := (hcl0.mv m3 (by omega)).c; have l3f := (hcl0.mv m3 (by omega)).f; have l3b := (hcl0.mv m3 (by omega)).lt; refine hK _ _ ?_; clear hK K; refine wpAny_ready (rs := [0, 3]) (by kernel_rfl) (by simp) ?_; refine AllReady.cons rfl (fun K hK => ?p4) (AllReady.cons rfl (fun K hK => ?p5) AllReady.nil))
      case' p4 => (go_simp; refine hK _ _ ?_; clear hK K; refine wpAny_ready (rs := [3]) (by kernel_rfl) (by simp) ?_; refine AllReady.cons rfl (fun K hK => ?_) AllReady.nil; go_simp; refine hK _ _ ?_; clear hK K; refine wpAny_ready (rs := [4]) (by kernel_rfl) (by simp) ?_; refine AllReady.cons rfl (fun K hK => ?_) AllReady.nil; rw [if_pos (by rfl)]; refine wp_append_own _ _ _ 128 rfl (w.heap.size + 3) 140 i0 (.agg #[.string ByteArray.empty, .string ByteArray.empty]) 2 32 Tryd.underlying128 hi hz0 hz1 hz2 rfl (by decide) v ads.length (adrCells ads) rfl ((ownsRow_mv m3 (by omega) hrow).alloc _) ⟨w3.heap.size, 0, none⟩ 1 1 [.string al, .string ad] rfl rfl (new_cells _ [.string al, .string ad] _) (by simp [Value.oneCell']) (by unfold maxLen; omega) (by omega) (by have := m3.size; simp; omega) (fun v' w5 hown' hgrow _ => ?_); obtain ⟨g', c', rfl⟩ := own_pos hown'; have hb5 : Below (w.heap.size + 3) w3 w5 := below_append (Below.refl _ w3) (by have := m3.size; omega) (ownsRow_mv m3 (by omega) hrow) hgrow; have l5 := (hcl0.mv m3 (by omega)).below hb5 (by omega); have lc5 := l5.c; have lf5 := l5.f; have lb5 := l5.lt; refine hK _ _ ?_; clear hK K; refine wpAny_ready (rs := [5]) (by kernel_rfl) (by simp) ?_; refine AllReady.cons rfl (fun K hK => ?_) AllReady.nil; go_simp; refine hK _ _ ?_; clear hK K; refine wpAny_done (by kernel_rfl) ?_ _)
      case' p5 => (go_simp; refine hK _ _ ?_; clear hK K; refine wpAny_ready (rs := [0]) (by kernel_rfl) (by simp) ?_; refine AllReady.cons rfl (fun K hK => ?_) AllReady.nil; go_simp; refine hK _ _ ?_; clear hK K; refine wpAny_ready (rs := [4]) (by kernel_rfl) (by simp) ?_; refine AllReady.cons rfl (fun K hK => ?_) AllReady.nil; rw [if_pos (by rfl)]; refine wp_append_own _ _ _ 128 rfl (w.heap.size + 3) 140 i0 (.agg #[.string ByteArray.empty, .string ByteArray.empty]) 2 32 Tryd.underlying128 hi hz0 hz1 hz2 rfl (by decide) v ads.length (adrCells ads) rfl ((ownsRow_mv m3 (by omega) hrow).alloc _) ⟨w3.heap.size, 0, none⟩ 1 1 [.string al, .string ad] rfl rfl (new_cells _ [.string al, .string ad] _) (by simp [Value.oneCell']) (by unfold maxLen; omega) (by omega) (by have := m3.size; simp; omega) (fun v' w5 hown' hgrow _ => ?_); obtain ⟨g', c', rfl⟩ := own_pos hown'; have hb5 : Below (w.heap.size + 3) w3 w5 := below_append (Below.refl _ w3) (by have := m3.size; omega) (ownsRow_mv m3 (by omega) hrow) hgrow; have l5 := (hcl0.mv m3 (by omega)).below hb5 (by omega); have lc5 := l5.c; have lf5 := l5.f; have lb5 := l5.lt; refine hK _ _ ?_; clear hK K; refine wpAny_ready (rs := [5]) (by kernel_rfl) (by simp) ?_; refine AllReady.cons rfl (fun K hK => ?_) AllReady.nil; go_simp; refine hK _ _ ?_; clear hK K; refine wpAny_done (by kernel_rfl) ?_ _)
      all_goals
        have l6 := l5.set (.slice (some ⟨g', 0, none⟩) (ads.length + 1) c')
        have e6 := ((hce0.mv m3 (by omega)).below hb5 (by omega)).other (b := w.heap.size) (by omega) 0 (.slice (some ⟨g', 0, none⟩) (ads.length + 1) c')
        have r5 : RB w5 (w.heap.size + 1 + 1) s j := (hb5.block _ (by omega)).trans h3
        have r6 := r5.other (c := w.heap.size) (by omega) 0 (.slice (some ⟨g', 0, none⟩) (ads.length + 1) c')
        have mv6 : Mv w.heap.size w5 (w5.setCell ⟨w.heap.size, 0, none⟩ (.slice (some ⟨g', 0, none⟩) (ads.length + 1) c')) := (Mv.refl _ w5).set 0 _
        have row6 := ownsRow_mv mv6 (by omega) hown'
        have b6 := (hbw0.trans ((m3.below (by omega) (by omega)).trans (hb5.mono (by omega)))).setCell (p := ⟨w.heap.size, 0, none⟩) (Nat.le_refl _) (.slice (some ⟨g', 0, none⟩) (ads.length + 1) c')
        have mm3 := m3.cell hmm0 hg
        have mm5 : w5.cell? ⟨6, 0, none⟩ = some (.int .i64 m) := (hb5.cell (p := ⟨6, 0, none⟩) (show 6 < _ by omega)).trans mm3
        have mm6 := mv6.cell mm5 (show 6 ≠ _ by omega)
        have sz6 : w.heap.size + 3 ≤ (w5.setCell ⟨w.heap.size, 0, none⟩ (.slice (some ⟨g', 0, none⟩) (ads.length + 1) c')).heap.size := by
          have := m3.size; have := hb5.size; have := mv6.size; omega
        have nc6 : adrCells ads ++ [.string al, .string ad] = adrCells (ads ++ [⟨al, ad⟩]) := by rw [adrCells_append]; rfl
        rw [nc6] at row6
        generalize (w5.setCell ⟨w.heap.size, 0, none⟩ (.slice (some ⟨g', 0, none⟩) (ads.length + 1) c')) = w6 at *
        clear l5 lc5 lf5 lb5 hb5 hgrow hown' l3 l3f l3b h3 m3 r5 mv6 mm3 mm5 nc6 hcl0 hce0 hbw0 hmm0 hsz0 hrow hrb hcl hce hbw hmm hszr HC lc
        have hr2 := Hr1.out
        rw [Option.bind_some, ← hdj] at hr2
        clear Hr1 hdj
        have Hr2 := Lib.hid hr2
        clear hr2
        go_wp2_with fail
        refine (skip_keep s (w.heap.size + 1 + 1) j w6 w6 (by omega) r6 (Mv.refl _ _) hj).mono ?_
        rintro e w7 ⟨rfl, j2, hj2, hjj2, hd2, r7, m7⟩
        have l7 := l6.mv m7 (by omega)
        have e7 := e6.mv m7 (by omega)
        have row7 := ownsRow_mv m7 (by omega) row6
        have b7 := b6.trans (m7.below (by omega) (by omega))
        have mm7 := m7.cell mm6 hg
        have sz7 : w.heap.size + 3 ≤ w7.heap.size := by have := m7.size; omega
        have hr3 := Hr2.out
        rw [← hd2] at hr3
        clear l6 e6 row6 b6 mm6 sz6 r6 m7 Hr2 hd2
        have lc := l7.c
        have lf := l7.f
        have lb := l7.lt
        have ec := e7.c
        have ef := e7.f
        have eb := e7.lt
        have rc0 := r7.c0
        have rc1 := r7.c1
        have rf1 := r7.f1
        have rb := r7.lt
        have Row7 := Lib.hid row7
        clear row7
        by_cases hend : j2 = s.size
        · have hnil : (bs s).drop j2 = [] := List.drop_of_length_le (by rw [bs_len]; omega)
          rw [if_pos hnil] at hr3
          obtain rfl : R = some (ads ++ [(⟨al, ad⟩ : Adr)]) := hr3.symm
          clear hr3 hnil
          subst hend
          go_wp2_with fail
          go_quiet (fail)
          by_cases h20 : 20 < ads.length + 1
          · go_wp2_with fail
            refine door_idle (v := .slice none 0 0) (err := 5) (by simp [go_sem]) rfl rfl (((l7 : CB (w7.drewN nq) _ _ _).set _).other (by omega) 0 _) (((e7 : CB (w7.drewN nq) _ _ _).other (by omega) 0 _).set _) (((bel_drewN b7 _).setCell (p := ⟨w.heap.size, 0, none⟩) (Nat.le_refl _) _).setCell (p := ⟨w.heap.size + 1, 0, none⟩) (Nat.le_succ _) _) ?_
            have hlen : (ads ++ [(⟨al, ad⟩ : Adr)]).length = ads.length + 1 := by simp
            show if 20 < (ads ++ [(⟨al, ad⟩ : Adr)]).length then _ else _
            rw [if_pos (by rw [hlen]; exact h20)]
            exact ⟨rfl, rfl⟩
          · go_wp2_with fail
            refine door_idle (v := .slice (some ⟨g', 0, none⟩) (ads.length + 1) c') (err := 0) (by simp [go_sem]) rfl rfl (((l7 : CB (w7.drewN nq) _ _ _).set _).other (by omega) 0 _) (((e7 : CB (w7.drewN nq) _ _ _).other (by omega) 0 _).set _) (((bel_drewN b7 _).setCell (p := ⟨w.heap.size, 0, none⟩) (Nat.le_refl _) _).setCell (p := ⟨w.heap.size + 1, 0, none⟩) (Nat.le_succ _) _) ?_
            have hlen : (ads ++ [(⟨al, ad⟩ : Adr)]).length = ads.length + 1 := by simp
            show if 20 < (ads ++ [(⟨al, ad⟩ : Adr)]).length then _ else _
            rw [if_neg (by rw [hlen]; exact h20), hlen]
            refine ⟨rfl, ownsRow_base (by omega) (ownsRow_mv ((Mv.refl (w.heap.size + 1) _).set 0 _) (by omega) (ownsRow_mv ((Mv.refl w.heap.size _).set 0 _) (by omega) (?_ : (w7.drewN nq).ownsRow (w.heap.size + 3) _ _ _ _ _)))⟩
            exact Row7.out
        · have hlt2 : j2 < s.size := by omega
          have hne : ¬ (bs s).drop j2 = [] := by rw [drop_step hlt2]; simp
          rw [if_neg hne] at hr3
          have Hr3 := Lib.hid hr3
          clear hr3 hne
          have hjs : ((j2 : Int) == (s.size : Int)) = false := by rw [beq_eq_false_iff_ne]; omega
          go_wp2_with fail
          go_quiet (fail)
          go_wp2_with fail
          refine (next_keepB s (w.heap.size + 1 + 1) j2 _ _ (by omega) (r7.drewN nq) (Mv.refl _ _) hj2).mono ?_
          rintro e w8 ⟨rfl, r8, m8⟩
          have l8 : CB w8 _ _ _ := CB.mv (W := w7.drewN nq) l7 m8 (by omega)
          have e8 : CB w8 _ _ _ := CB.mv (W := w7.drewN nq) e7 m8 (by omega)
          have row8 := ownsRow_mv (w := w7.drewN nq) m8 (by omega) Row7.out
          have b8 := (bel_drewN b7 nq).trans (m8.below (by omega) (show w.heap.size ≤ w7.heap.size by omega))
          have mm8 := m8.cell (show (w7.drewN nq).cell? ⟨6, 0, none⟩ = some (.int .i64 m) from mm7) hg
          have sz8 : w.heap.size + 3 ≤ w8.heap.size := by have : w7.heap.size ≤ _ := m8.size; omega
          clear l7 e7 Row7 b7 mm7 sz7 r7 m8 lc lf lb ec ef eb rc0 rc1 rf1 rb
          by_cases h44 : nextB ((bs s).drop j2) = 44
          · have hr4 := Hr3.out
            rw [if_pos h44, List.tail_drop] at hr4
            rw [h44]
            have rc1 := r8.c1
            have rf1 := r8.f1
            have rb := r8.lt
            have Hr4 := Lib.hid hr4
            clear hr4 Hr3
            go_wp2_with (go_at_call 86; refine (must_yes _).mono ?_; rintro e w' ⟨rfl, rfl⟩)
            have mv9 : Mv (w.heap.size + 1 + 1) w8 (w8.setCell ⟨w.heap.size + 1 + 1, 1, none⟩ (.int .i64 ((j2 : Int) + 1))) := (Mv.refl _ w8).set 1 _
            go_roundg kq
            case measure => omega
            case rel => exact ⟨j2 + 1, ads ++ [⟨al, ad⟩], _, hlt2, by omega, by simp; omega, r8.step j2, l8.mv mv9 (by omega), e8.mv mv9 (by omega), by rw [List.length_append]; exact ownsRow_mv mv9 (by omega) row8, b8.trans (mv9.below (by omega) (by omega)), by have := mv9.size; omega, mv9.cell mm8 hg, Lib.hid (by rw [← Hr4.out, Option.map_map]; congr 1; funext l; simp)⟩
          · have hr4 := Hr3.out
            rw [if_neg h44] at hr4
            obtain rfl : R = none := hr4.symm
            have e44 : (((nextB ((bs s).drop j2)).toNat : Int) == 44) = false := byte_ne (n := 44) (by decide) h44
            go_wp2_with (go_at_call 86; refine (must_no _).mono ?_; rintro e w' ⟨rfl, rfl⟩)
            exact door_panicked (by simp [go_sem]) rfl rfl l8 e8 b8
end Go.Proofs.YtgmnoemkdigafaaDoor
