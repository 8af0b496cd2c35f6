/- Each value is found by its name, of great or small letters, in its order: for every list of lines and every name. -/
import Derived.Test.YtlbibklbckabnaaDoorLetNamed
import Derived.Test.YtlbibklbckabnaaDoorPick
import Derived.Deep.RegionHeld3
import Derived.WalkArith
import Derived.Deep.AppendLies
namespace Go.Proofs.YtlbibklbckabnaaDoor
open Go.RowKit
set_option linter.unusedVariables false

theorem row_get {w : World} {base g c q n : Nat} {l : List Fld} {a : Fld} (h : w.ownsRow base 48 2 (.slice (some ⟨g, 0, none⟩) n c) n (fldCells l)) (hl : l.length = n) (hq : l[q]? = some a) :
    w.cell? ⟨g, q * 2, none⟩ = some (.string a.name) ∧ w.cell? ⟨g, q * 2 + 1, none⟩ = some (.string a.value) := by
  have hlt : q < l.length := (List.getElem?_eq_some_iff.1 hq).1
  obtain ⟨h1, h2⟩ := fldCells_get l q a hq
  exact ⟨(h.cellAt (q * 2) (by omega)).trans h1, (h.cellAt (q * 2 + 1) (by omega)).trans h2⟩
theorem own_kept {W W' : World} {base e size n : Nat} {v : Value} {xs : List Value} {row : Option Nat} (h : W.ownsRow base e size v n xs) (hg : W.grownBy W' row) (hn : ∀ k, v.ownBlock = some k → some k ≠ row) : W'.ownsRow base e size v n xs := by
  refine ⟨h.1, ?_⟩
  rcases h.2 with h2 | ⟨g, cap, cur, rfl, h1, h2, rest⟩
  · exact .inl h2
  · exact .inr ⟨g, cap, cur, rfl, h1, (hg.block g (Array.getElem?_eq_some_iff.1 h2).1 (hn g rfl)).trans h2, rest⟩
theorem KN.want {w W W' : World} {bm c b0 bW : Nat} {A : Option Addr} {F : List Fld} {v v' : Value} {want : List ByteArray} {m : Int} {o : Obj} {s : ByteArray} (h : KN w W bm A c F b0 bW v want m) (hown : W'.ownsRow bW 9 1 v' (want.length + 1) (strVs want ++ [.string s])) (hg : (W.alloc o).grownBy W' v.ownBlock) : KN w W' bm A c F b0 bW v' (want ++ [s]) m := by
  have ho := h.o
  have hb : Below bW W W' := ((Below.refl _ W).alloc ho.2.2.2 o).grown hg (by simp; omega) (fun k e => own_base' h.wrow k e)
  have hbm := h.box.lt
  refine ⟨h.box.below hb ho.2.2.1, ?_, ?_, h.bel.trans (hb.mono (by omega)), h.mm, ⟨ho.1, ho.2.1, ho.2.2.1, Nat.le_trans ho.2.2.2 hb.size⟩, h.n⟩
  · refine own_kept (row := v.ownBlock) (h.row.alloc o) hg ?_
    intro k hk e
    have h1 := h.n k hk
    have h2 := own_base' h.wrow k e.symm
    omega
  · rw [List.length_append]
    unfold strVs at hown ⊢
    rw [List.map_append]
    exact hown
theorem KN.lin {w W : World} {bm c b0 bW : Nat} {A : Option Addr} {F : List Fld} {v : Value} {want : List ByteArray} {m : Int} (h : KN w W bm A c F b0 bW v want m) (hs : ∀ f ∈ F, f.name.size ≤ 100000 ∧ f.value.size ≤ 100000) : kLin.Row W A F := by
  obtain ⟨A', c', e, hl⟩ := ownsRow_lin h.row rfl hs
  simp only [Value.slice.injEq, true_and] at e
  obtain ⟨rfl, rfl⟩ := e
  exact hl
theorem wantV_small {n : ByteArray} {F : List Fld} (hs : ∀ f ∈ F, f.name.size ≤ 100000 ∧ f.value.size ≤ 100000) : ∀ s ∈ wantV n F, s.size ≤ 100000 := by
  intro s h
  unfold wantV at h
  obtain ⟨f, hf, rfl⟩ := List.mem_map.1 h
  exact (hs f (List.mem_filter.1 hf).1).2
theorem own_lt {W : World} {base e size n : Nat} {v : Value} {xs : List Value} (h : W.ownsRow base e size v n xs) : ∀ k, v.ownBlock = some k → k < W.heap.size := by
  intro k hk
  rcases h.2 with ⟨h, _⟩ | ⟨g, cap, cur, rfl, _, hg, _⟩
  · rw [h] at hk; cases hk
  · obtain rfl : g = k := by simpa [Value.ownBlock] using hk
    exact (Array.getElem?_eq_some_iff.1 hg).1
theorem own_set {W : World} {base e size n : Nat} {v : Value} {xs : List Value} (h : W.ownsRow base e size v n xs) {b : Nat} (hne : v.ownBlock ≠ some b) (j : Nat) (u : Value) : (W.setCell ⟨b, j, none⟩ u).ownsRow base e size v n xs :=
  h.kept (row := some b) ⟨rfl, rfl, rfl, by simp [World.setCell], fun k _ hk => Below.heap_setCell _ _ _ _ (fun e => hk (by simp [e]))⟩ (Or.inr hne)
theorem row_str7 {w : World} {base n c : Nat} {A : Option Addr} {l : List ByteArray} (h : w.ownsRow base 9 1 (.slice A n c) n (strVs l)) (hl : l.length = n) (hs : ∀ s ∈ l, s.size ≤ 100000) : Rk.str.Row w A l := by
  obtain ⟨A', c', e, hr⟩ := row_strs h hl hs
  simp only [Value.slice.injEq, true_and] at e
  obtain ⟨rfl, rfl⟩ := e
  exact hr
/-- A field more behind the message's fields. -/
theorem KN.field {w W W' : World} {bm c b0 bW g cap H : Nat} {A : Option Addr} {F : List Fld} {v : Value} {want : List ByteArray} {m : Int} {o : Obj} {f : Fld} (h : KN w W bm A c F b0 bW v want m)
    (hown : W'.ownsRow b0 48 2 (.slice (some ⟨g, 0, none⟩) (F.length + 1) cap) (F.length + 1) (fldCells F ++ [.string f.name, .string f.value])) (hg : (W.alloc o).grownBy W' (Value.slice A F.length c).ownBlock) (hat : (Value.slice A F.length c).ownBlock = some g ∨ g = H) (hH : W.heap.size ≤ H) :
    MB W' bm (.slice A F.length c) ⟨#[]⟩ ∧
    (W'.setCell ⟨bm, 0, none⟩ (.slice (some ⟨g, 0, none⟩) (F.length + 1) cap)).ownsRow b0 48 2 (.slice (some ⟨g, 0, none⟩) (F.length + 1) cap) (F.length + 1) (fldCells (F ++ [f])) ∧
    MB (W'.setCell ⟨bm, 0, none⟩ (.slice (some ⟨g, 0, none⟩) (F.length + 1) cap)) bm (.slice (some ⟨g, 0, none⟩) (F.length + 1) cap) ⟨#[]⟩ ∧
    Below w.heap.size w (W'.setCell ⟨bm, 0, none⟩ (.slice (some ⟨g, 0, none⟩) (F.length + 1) cap)) ∧
    (W'.setCell ⟨bm, 0, none⟩ (.slice (some ⟨g, 0, none⟩) (F.length + 1) cap)).ownsRow bW 9 1 v want.length (strVs want) ∧
    (∀ base n v2 xs, W.ownsRow base 9 1 v2 n xs → bm < base → (W'.setCell ⟨bm, 0, none⟩ (.slice (some ⟨g, 0, none⟩) (F.length + 1) cap)).ownsRow base 9 1 v2 n xs) := by
  have ho := h.o
  have hl := h.box.lt
  have hbm : some bm ≠ (Value.slice A F.length c).ownBlock := fun e => by have := h.n bm e.symm; omega
  have hbox : MB W' bm (.slice A F.length c) ⟨#[]⟩ := (hg.block bm (by simp; omega) hbm).trans (h.box.below ((Below.refl _ W).alloc (Nat.le_refl _) o) hl)
  have hgb : g ≠ bm := by
    rcases hat with hat | hat
    · have := h.n g hat; omega
    · omega
  have hkeep : ∀ base n v2 xs, W.ownsRow base 9 1 v2 n xs → bm < base → (W'.setCell ⟨bm, 0, none⟩ (.slice (some ⟨g, 0, none⟩) (F.length + 1) cap)).ownsRow base 9 1 v2 n xs := by
    intro base n v2 xs hr hb
    refine own_set (own_kept (hr.alloc o) hg ?_) ?_ 0 _
    · intro k hk e
      have h1 := h.n k e.symm
      have h2 := own_base' hr k hk
      omega
    · intro e
      have h2 := own_base' hr bm e
      omega
  have hbel : Below w.heap.size w W' := (h.bel.alloc (by omega) o).grown hg (by simp; omega) (fun k e => Nat.le_trans ho.1 (own_base' h.row k e))
  refine ⟨hbox, ?_, hbox.set0 _, hbel.setCell (p := ⟨bm, 0, none⟩) (by show w.heap.size ≤ bm; omega) _, hkeep _ _ _ _ h.wrow ho.2.2.1, hkeep⟩
  rw [fldCells_append]
  exact own_set hown (by intro e; injection e with e; exact hgb e) 0 _
set_option maxRecDepth 100000 in
set_option maxHeartbeats 16000000 in
theorem letterNamed_walk (x : List Fld) (A : Option Addr) (c : Nat) (nm : ByteArray) (m : Int) (w : World) (hx : x.length ≤ 9223372036854775807) (hA : kLin.Row w A x) (hns : nm.size ≤ 9223372036854775807) (hm : w.cell? ⟨0, 0, none⟩ = some (.int .i64 m)) :
    Calls Tryd.prog 13 #[.slice A x.length c, .string nm] w fun e w' => e = .returned (.bool true) ∧ Below w.heap.size w w' := by
  obtain ⟨i0, hi, hz0, hz1, hz2⟩ := info_parts info_str
  obtain ⟨i1, hi1, hy0, hy1, hy2⟩ := info_parts info_fld
  have wfn : (Lit.int .i64 (nm.size : Int)).wf = true := WalkArith.wf_i64 (by omega)
  go_enter Tryd.func13, Tryd.ntmps13
  go_wp2_with fail
  refine (message_calls x A c ⟨#[]⟩ w hx hA (by decide)).mono ?_
  rintro e w1 ⟨v, rfl, hrow, hb1⟩
  rw [cutS_all ⟨#[]⟩ 200 (by decide)]
  have hmay := fieldsOf_may x
  have hisw := fieldsOf_isW x
  have hn := fieldsOf_len x
  have hfl := fieldsOf_fldsL x
  have hsm := fieldsOf_small x
  obtain ⟨A2, c2, rfl⟩ := own_slice hrow
  generalize fieldsOf x = F at *
  have Hmay := Lib.hid hmay
  have Hisw := Lib.hid hisw
  have Hsm := Lib.hid hsm
  have Hfl := Lib.hid hfl
  have hlt1 : ∀ k, (Value.slice A2 F.length c2).ownBlock = some k → k < w1.heap.size := by
    intro k hk
    rcases hrow.2 with ⟨h, _⟩ | ⟨g, cap, cur, h, _, hg, _⟩
    · rw [h] at hk; cases hk
    · rw [h] at hk
      obtain rfl : g = k := by simpa [Value.ownBlock] using hk
      exact (Array.getElem?_eq_some_iff.1 hg).1
  have hs1 := hb1.size
  have hb2 : Below w1.heap.size w1 (w1.alloc (.cells #[.slice A2 F.length c2, .string ⟨#[]⟩] 45)) := (Below.refl _ w1).alloc (Nat.le_refl _) _
  have hs2 : (w1.alloc (.cells #[.slice A2 F.length c2, .string ⟨#[]⟩] 45)).heap.size = w1.heap.size + 1 := by simp
  have hK2 : KN w (w1.alloc (.cells #[.slice A2 F.length c2, .string ⟨#[]⟩] 45)) w1.heap.size A2 c2 F w.heap.size (w1.heap.size + 1) (.slice none 0 0) [] m :=
    ⟨World.alloc_heap_new w1 _, ownsRow_laterE hb2 hrow, World.ownsRow_nil _ _ _ _, hb1.trans (hb2.mono hs1), hm, ⟨Nat.le_refl _, hs1, Nat.lt_succ_self _, by omega⟩, hlt1⟩
  have HK2 := Lib.hid hK2
  clear hmay hisw hsm hfl hrow hb1 hb2 hm hA hK2 hlt1
  go_wp2_with fail
  generalize w1.alloc (.cells #[.slice A2 F.length c2, .string ⟨#[]⟩] 45) = w2 at *
  refine (word_calls nm hns w2).mono ?_
  rintro e w3 ⟨rfl, hb3⟩
  have hK3 := HK2.out.later hb3
  have a0 := hK3.box.c0
  have HK3 := Lib.hid hK3
  have hw0 := word_isW (bs nm)
  generalize mkS (wordL (bs nm)) = n0 at *
  have Hw0 := Lib.hid hw0
  clear HK2 hb3 hs2 hw0
  -- the name that is asked for
  by_cases hF0 : 0 < F.length
  · have hF0' : (0 : Int) < (F.length : Int) := by omega
    have hk := pickN_lt (nm.size : Int) (F.length : Int) hF0'
    obtain ⟨k, hkk⟩ : ∃ k, pickN (nm.size : Int) (F.length : Int) = k := ⟨_, rfl⟩
    rw [hkk] at hk
    have hkF : k < F.length := by omega
    have hget : F[k]? = some F[k] := List.getElem?_eq_getElem hkF
    obtain ⟨g, cc, hsl⟩ := own_ptr hK3.row hF0
    simp only [Value.slice.injEq, true_and] at hsl
    obtain ⟨rfl, rfl⟩ := hsl
    obtain ⟨r0, r1⟩ := row_get hK3.row rfl hget
    have hw0 := Hisw.out F[k] (List.getElem_mem hkF)
    have Hkk := Lib.hid hkk
    clear hget hK3 hkk
    generalize F[k] = z at *
    have Hw1 := Lib.hid hw0
    have hk0 : (0 : Int) ≤ (k : Int) := by omega
    have HP := fun W => Lib.hid (picked_calls (nm.size : Int) (F.length : Int) W wfn hF0' (by omega))
    clear hw0
    go_wp2_with fail
    go_region_held3 (fun w' => w'.cell? ⟨w1.heap.size, 0, none⟩ = some (.slice (some ⟨g, 0, none⟩) F.length c2) ∧ w'.cell? ⟨g, k * 2, none⟩ = some (.string z.name)) (first | assumption | exact ⟨a0, r0⟩)
      (first | (go_at_call 17; (with_reducible refine (HP _).out.mono ?_); rw [Hkk.out]; rintro e w' ⟨rfl, rfl⟩))
    have hK4 : KN w w3.drew w1.heap.size (some ⟨g, 0, none⟩) c2 F w.heap.size (w1.heap.size + 1) (.slice none 0 0) [] m := HK3.out.later ⟨rfl, rfl, rfl, Nat.le_refl _, fun _ _ => rfl⟩
    obtain ⟨N, hN⟩ : ∃ N, z.name = N := ⟨_, rfl⟩
    rw [hN] at Hw1 ⊢
    have HwN := Hw1
    have HK4 := Lib.hid hK4
    clear hK4 HK3 r0 r1 a0 Hkk HP hk hkF hN Hw1 Hw0
    generalize w3.drew = w4 at *
    have a0 := HK4.out.box.c0
    go_wp2_with fail
    go_loopw [7, 8] (fun v i wr => ∃ k : Nat, k ≤ F.length ∧ i = .int .i64 k ∧ Hid (KN w wr w1.heap.size (some ⟨g, 0, none⟩) c2 F w.heap.size (w1.heap.size + 1) v (wantV N (F.take k)) m)) (fun _ i _ => F.length - (intOf i).toNat)
    case atStart => exact ⟨0, Nat.zero_le _, rfl, HK4⟩
    case round =>
      obtain ⟨k, hk, rfl, HK⟩ := hrel
      clear HK4 a0
      have hK := HK.out
      have a0 := hK.box.c0
      by_cases hlt : k < F.length
      · have hget : F[k]? = some F[k] := List.getElem?_eq_getElem hlt
        obtain ⟨r0, r1⟩ := row_get hK.row rfl hget
        have hsn := wantV_snoc N (F.take k) F[k]
        rw [← List.take_succ_eq_append_getElem hlt] at hsn
        have hwl : (wantV N (F.take k)).length ≤ 6 := by have := wantV_len N (F.take k); rw [List.length_take] at this; omega
        generalize F[k] = z at *
        obtain ⟨fit, hfit⟩ : ∃ fit, eqN N z = fit := ⟨_, rfl⟩
        rw [hfit] at hsn
        have hfit2 : (z.name.toList == N.toList) = fit := hfit
        have Hsn := Lib.hid hsn
        have hk0 : (0 : Int) ≤ (k : Int) := by omega
        have hkn : (k : Int) < (F.length : Int) := by omega
        have hwr := hK.wrow
        have hwb : w1.heap.size + 1 ≤ wr.heap.size := hK.o.2.2.2
        clear hget hsn hfit hK
        cases fit with
        | false =>
          clear hwr
          go_wp2
          go_roundw
          case rel => exact ⟨k + 1, by omega, by go_num, Lib.hid (by rw [Hsn.out]; exact HK.out)⟩
          case measure => simp [intOf]; omega
        | true =>
          go_wp2_with (at_builtin; refine wpList_append_own _ rfl _ _ 39 rfl (w1.heap.size + 1) 9 i0 (.string ByteArray.empty) 1 16 Tryd.underlying39 hi hz0 hz1 hz2 rfl (by decide) _ _ _ rfl (hwr.alloc _) ⟨wr.heap.size, 0, none⟩ 1 1 [.string z.value] rfl rfl (new_cells _ [.string z.value] _) (by simp [Value.oneCell']) (by unfold maxLen; omega) (by omega) (by simp; omega) ?_; intro v' w5 hown' hgrow _; have HKw := Lib.hid (KN.want HK.out hown' hgrow); clear hown' hgrow)
          go_roundw
          case rel => exact ⟨k + 1, by omega, by go_num, Lib.hid (by rw [Hsn.out, if_pos rfl]; exact HKw.out)⟩
          case measure => simp [intOf]; omega
      · obtain rfl : k = F.length := by omega
        rw [List.take_length] at hK
        obtain ⟨Aw, cw, rfl⟩ := own_slice hK.wrow
        have HK5 := Lib.hid hK
        have hconv := Lib.run_convert_string_bytes (P := Tryd.prog) wr 9 60 5 N Tryd.underlying9 Tryd.underlying60 Tryd.underlying5
        have hb0 : Below wr.heap.size wr (Lib.bytesWorld wr 5 N) :=
          ⟨rfl, rfl, rfl, by rw [Lib.bytesWorld_size]; omega, fun k hk => Lib.bytesWorld_at_old wr _ N k hk⟩
        have hf0 := gSt_begin N 5 wr
        clear hK HK
        go_wp2_with fail
        clear hconv a0
        obtain ⟨wo, rfl⟩ : ∃ wo : World, wo = wr := ⟨_, rfl⟩
        have hNs := HwN.out.short
        go_loopw [10] (fun i w6 => ∃ j : Nat, j ≤ N.size ∧ i = .int .i64 j ∧ GSt N wo.heap.size j w6 ∧ Below wo.heap.size wo w6) (fun i _ => N.size - (intOf i).toNat)
        case atStart => exact ⟨0, Nat.zero_le _, rfl, hf0, hb0⟩
        case round =>
          obtain ⟨j, hj, rfl, hst, hb⟩ := hrel
          clear hf0 hb0
          by_cases hltj : j < N.size
          · obtain ⟨hc, hfz⟩ := hst j hltj
            rw [if_neg (Nat.lt_irrefl j)] at hc
            have hnew := gSt_step hst hltj
            have hrng := HwN.out.small N.data[j] (by unfold bs; exact List.getElem_mem (l := N.data.toList) hltj)
            have hlow := (small_up N.data[j] hrng.1 hrng.2).2.2
            rw [hlow] at hnew
            have hr1 : (97 : Int) ≤ (N.data[j].toNat : Int) := by omega
            have hr2 : (N.data[j].toNat : Int) ≤ 122 := by omega
            have Hnew := Lib.hid hnew
            have Hbb := Lib.hid hb
            have hj0 : (0 : Int) ≤ (j : Int) := by omega
            have hjn : (j : Int) < (N.size : Int) := by omega
            clear hnew hlow hst hb hrng
            go_wp2_with fail
            go_roundw
            case rel => exact ⟨j + 1, by omega, by go_num, Hnew.out, Hbb.out.setCell (Nat.le_refl _) _⟩
            case measure => simp [intOf]; omega
          · obtain rfl : j = N.size := by omega
            obtain ⟨he, hcells⟩ := gSt_end hst
            have hK6 := HK5.out.later hb
            have HK6 := Lib.hid hK6
            have hpick := pick_want HwN.out F Hisw.out
            have hva := values_calls F (some ⟨g, 0, none⟩) c2 ⟨#[]⟩ N m wr (hK6.lin Hsm.out) Hmay.out (by omega) (by rw [showL_len]; have := Hfl.out; show _ + 2 + 0 ≤ _; omega) (by have := HwN.out.short; omega) hK6.mmW
            rw [hpick.1] at hva
            have HVa := Lib.hid hva
            have a0 := hK6.box.c0
            have a1 := hK6.box.c1
            have Hcells := Lib.hid hcells
            have He := Lib.hid he
            have Hpick := Lib.hid hpick
            clear hva hpick hK6 hst hb he hcells HK5
            go_wp2_with fail
            refine HVa.out.mono ?_
            rintro e w7 ⟨v7, rfl, hrow7, hb7⟩
            have hK7 := HK6.out.later hb7
            have HK7 := Lib.hid hK7
            have hbz7b := hK7.o
            have hcl : ∀ i, i < N.size → w7.cell? ⟨wo.heap.size, 0 + i, none⟩ = some (.int .u8 ((N.data.toList.map fun c => ((lowB c).toNat : Int)).getD i 0)) := fun i hi => cell_later hb7 (Hcells.out i hi)
            have hconv := run_convert_bytes_arg (P := Tryd.prog) w7 60 5 Tryd.underlying60 Tryd.underlying5 wo.heap.size 0 N.size (grownCap wo N.size 0 5) _ (by rw [List.length_map]; rfl) hcl 9 Tryd.underlying9
            rw [He.out] at hconv
            obtain ⟨A7, c7, rfl⟩ := own_slice hrow7
            have hbz7 := HK6.out.o
            have hvb := values_calls F (some ⟨g, 0, none⟩) c2 ⟨#[]⟩ (greatB N) m w7 (hK7.lin Hsm.out) Hmay.out (by omega) (by rw [showL_len]; have := Hfl.out; show _ + 2 + 0 ≤ _; omega) (by rw [great_size]; have := HwN.out.short; omega) hK7.mmW
            rw [Hpick.out.2] at hvb
            have HVb := Lib.hid hvb
            have b0 := hK7.box.c0
            have b1 := hK7.box.c1
            have Row7 := Lib.hid hrow7
            clear HVa hK7 hcl hb7 hvb a0 a1 HK6 Hcells hrow7
            go_wp2_with fail
            refine HVb.out.mono ?_
            rintro e w8 ⟨v8, rfl, hrow8, hb8⟩
            clear hconv
            obtain ⟨A8, c8, rfl⟩ := own_slice hrow8
            have hK8 := HK7.out.later hb8
            have HK8 := Lib.hid hK8
            have hrow78 := ownsRow_laterE hb8 Row7.out
            have Row78 := Lib.hid hrow78
            have Row8 := Lib.hid hrow8
            have d0 := hK8.box.c0
            have d1 := hK8.box.f0
            have ho := hK8.o
            have hz78 := hb8.size
            clear HVb hK8 hb8 HK7 Row7 b0 b1 hrow78 hrow8
            have hr8 := HK8.out.row
            have hL := wantV_len N F
            have hFs : F.length + 1 ≤ 7 := by omega
            go_wp2_with (at_builtin; refine wpList_append_lies _ rfl _ _ 43 rfl w.heap.size 48 i1 _ 2 32 Tryd.underlying43 hi1 hy0 hy1 hy2 rfl (by omega) (.slice (some ⟨g, 0, none⟩) F.length c2) F.length (fldCells F) rfl (hr8.alloc _) ⟨w8.heap.size, 0, none⟩ 1 1 [.string N, .string ⟨#[118]⟩] rfl rfl (World.news_of_block (cs := #[.string N, .string ⟨#[118]⟩]) (t := 48) (fr := (0, 0)) (heap_alloc_new w8 _)) (by simp [Value.oneCell']) (by omega) (by unfold maxLen; omega) (by omega) (by simp; omega) _ rfl ?_; intro g9 cap9 w9 hown9 hgrow9 hat9 hglt9; have hfd := HK8.out.field (f := ⟨N, ⟨#[118]⟩⟩) hown9 hgrow9 hat9 (by simp); have e0 := hfd.1.c0; have e1 := hfd.1.f0; have e2 := hfd.1.c1; have Hfd := Lib.hid hfd; clear hown9 hgrow9 hat9 hfd)
            obtain ⟨_, hrow9, hbox9, hbel9, hwr9, hkeep⟩ := Hfd.out
            have hN9 : ∀ f ∈ F ++ [(⟨N, ⟨#[118]⟩⟩ : Fld)], IsW f.name := by
              intro f hf
              rcases List.mem_append.1 hf with hf | hf
              · exact Hisw.out f hf
              · simp only [List.mem_cons, List.not_mem_nil, or_false] at hf
                subst hf
                exact HwN.out
            have hM9 : ∀ f ∈ F ++ [(⟨N, ⟨#[118]⟩⟩ : Fld)], MayF f := by
              intro f hf
              rcases List.mem_append.1 hf with hf | hf
              · exact Hmay.out f hf
              · simp only [List.mem_cons, List.not_mem_nil, or_false] at hf
                subst hf
                exact mayV N HwN.out
            have hS9 : ∀ f ∈ F ++ [(⟨N, ⟨#[118]⟩⟩ : Fld)], f.name.size ≤ 100000 ∧ f.value.size ≤ 100000 := by
              intro f hf
              rcases List.mem_append.1 hf with hf | hf
              · exact Hsm.out f hf
              · simp only [List.mem_cons, List.not_mem_nil, or_false] at hf
                subst hf
                exact ⟨by show N.size ≤ _; omega, by show (1 : Nat) ≤ 100000; omega⟩
            have hF9 : (F ++ [(⟨N, ⟨#[118]⟩⟩ : Fld)]).length = F.length + 1 := by simp
            have hlin9 : kLin.Row (w9.setCell ⟨w1.heap.size, 0, none⟩ (.slice (some ⟨g9, 0, none⟩) (F.length + 1) cap9)) (some ⟨g9, 0, none⟩) (F ++ [(⟨N, ⟨#[118]⟩⟩ : Fld)]) := by
              obtain ⟨A', c', e, hl⟩ := ownsRow_lin hrow9 hF9 hS9
              simp only [Value.slice.injEq, true_and] at e
              obtain ⟨rfl, rfl⟩ := e
              exact hl
            have hsz9 : (showL (F ++ [(⟨N, ⟨#[118]⟩⟩ : Fld)]) (bs (⟨#[]⟩ : ByteArray))).length ≤ 2000 := by
              rw [showL_len]
              unfold fldsL
              rw [List.flatMap_append, List.length_append, List.flatMap_cons, List.flatMap_nil, List.append_nil, fldL_len]
              have h1 := Hfl.out
              unfold fldsL at h1
              show _ + (N.size + 1 + 4) + 2 + 0 ≤ 2000
              omega
            have hvc := values_calls (F ++ [(⟨N, ⟨#[118]⟩⟩ : Fld)]) (some ⟨g9, 0, none⟩) cap9 ⟨#[]⟩ N m _ hlin9 hM9 (by omega) hsz9 (by omega) (cell_later hbel9 HK8.out.mm)
            have hp9 : (pickV N (F ++ [(⟨N, ⟨#[118]⟩⟩ : Fld)])).length = (wantV N F).length + 1 := by
              rw [(pick_want HwN.out _ hN9).1, wantV_snoc, if_pos (by unfold eqN; exact beq_self_eq_true _), List.length_append]; rfl
            rw [hF9] at hvc
            have HVc := Lib.hid hvc
            have hsmw := wantV_small (n := N) Hsm.out
            have h7 := row_str7 (hkeep _ _ _ _ Row78.out (by omega)) rfl hsmw
            have h8 := row_str7 (hkeep _ _ _ _ Row8.out (by omega)) rfl hsmw
            have hw := row_str7 hwr9 rfl hsmw
            have H7 := Lib.hid h7
            have H8 := Lib.hid h8
            have Hw9 := Lib.hid hw
            have Hbel9 := Lib.hid hbel9
            have hx0 := hbox9.c0
            have hx1 := hbox9.c1
            have Hp9 := Lib.hid hp9
            clear hrow9 hwr9 hkeep hlin9 hvc h7 h8 hw hbel9 hbox9 Hfd Row78 Row8 HK8 hsz9 hM9 hN9 hS9 hF9 hr8 hp9 hsmw e0 e1 e2 d0 d1 ho hbz7 hbz7b
            generalize w9.setCell ⟨w1.heap.size, 0, none⟩ (.slice (some ⟨g9, 0, none⟩) (F.length + 1) cap9) = w10 at *
            refine HVc.out.mono ?_
            rintro e w11 ⟨v11, rfl, hrow11, hb11⟩
            rw [Hp9.out] at hrow11
            obtain ⟨A11, c11, rfl⟩ := own_slice hrow11
            have hbw11 := Hbel9.out.trans (hb11.mono Hbel9.out.size)
            have hs11 := hbw11.size
            have K7 := Lib.hid (H7.out.later hb11)
            have K8 := Lib.hid (H8.out.later hb11)
            have Kw := Lib.hid (Hw9.out.later hb11)
            have Hbw11 := Lib.hid hbw11
            clear HVc hb11 hrow11 hbw11 H7 H8 Hw9 Hbel9 hx0 hx1
            go_wp2_with fail
            refine (same_texts (wantV N F) A7 Aw c7 cw w11 K7.out Kw.out (by omega)).mono ?_
            rintro e w12 ⟨rfl, hb12⟩
            have K8b := Lib.hid (K8.out.later hb12)
            have Kwb := Lib.hid (Kw.out.later hb12)
            have hbw12 := Hbw11.out.trans (hb12.mono hs11)
            have Hbw12 := Lib.hid hbw12
            clear hb12 hbw12
            go_wp2_with fail
            refine (same_texts (wantV N F) A8 Aw c8 cw w12 K8b.out Kwb.out (by omega)).mono ?_
            rintro e w13 ⟨rfl, hb13⟩
            have Hbw13 := Lib.hid (Hbw12.out.trans (hb13.mono Hbw12.out.size))
            clear hb13
            go_wp2
            go_ret
            exact ⟨rfl, Hbw13.out⟩
  · have hF1 : ¬ (0 : Int) < (F.length : Int) := by omega
    obtain ⟨N, rfl⟩ : ∃ N, N = n0 := ⟨_, rfl⟩
    have HwN := Hw0
    have HK4 := HK3
    clear HK3 hK3 Hw0
    obtain ⟨w4, rfl⟩ : ∃ w4, w4 = w3 := ⟨_, rfl⟩
    have a0 := HK4.out.box.c0
    go_wp2_with fail
    go_loopw [7, 8] (fun v i wr => ∃ k : Nat, k ≤ F.length ∧ i = .int .i64 k ∧ Hid (KN w wr w1.heap.size A2 c2 F w.heap.size (w1.heap.size + 1) v (wantV N (F.take k)) m)) (fun _ i _ => F.length - (intOf i).toNat)
    case atStart => exact ⟨0, Nat.zero_le _, rfl, HK4⟩
    case round =>
      obtain ⟨k, hk, rfl, HK⟩ := hrel
      clear HK4 a0
      have hK := HK.out
      have a0 := hK.box.c0
      by_cases hlt : k < F.length
      · exact absurd hlt (by omega)
      · obtain rfl : k = F.length := by omega
        rw [List.take_length] at hK
        obtain ⟨Aw, cw, rfl⟩ := own_slice hK.wrow
        have HK5 := Lib.hid hK
        have hconv := Lib.run_convert_string_bytes (P := Tryd.prog) wr 9 60 5 N Tryd.underlying9 Tryd.underlying60 Tryd.underlying5
        have hb0 : Below wr.heap.size wr (Lib.bytesWorld wr 5 N) :=
          ⟨rfl, rfl, rfl, by rw [Lib.bytesWorld_size]; omega, fun k hk => Lib.bytesWorld_at_old wr _ N k hk⟩
        have hf0 := gSt_begin N 5 wr
        clear hK HK
        go_wp2_with fail
        clear hconv a0
        obtain ⟨wo, rfl⟩ : ∃ wo : World, wo = wr := ⟨_, rfl⟩
        have hNs := HwN.out.short
        go_loopw [10] (fun i w6 => ∃ j : Nat, j ≤ N.size ∧ i = .int .i64 j ∧ GSt N wo.heap.size j w6 ∧ Below wo.heap.size wo w6) (fun i _ => N.size - (intOf i).toNat)
        case atStart => exact ⟨0, Nat.zero_le _, rfl, hf0, hb0⟩
        case round =>
          obtain ⟨j, hj, rfl, hst, hb⟩ := hrel
          clear hf0 hb0
          by_cases hltj : j < N.size
          · obtain ⟨hc, hfz⟩ := hst j hltj
            rw [if_neg (Nat.lt_irrefl j)] at hc
            have hnew := gSt_step hst hltj
            have hrng := HwN.out.small N.data[j] (by unfold bs; exact List.getElem_mem (l := N.data.toList) hltj)
            have hlow := (small_up N.data[j] hrng.1 hrng.2).2.2
            rw [hlow] at hnew
            have hr1 : (97 : Int) ≤ (N.data[j].toNat : Int) := by omega
            have hr2 : (N.data[j].toNat : Int) ≤ 122 := by omega
            have Hnew := Lib.hid hnew
            have Hbb := Lib.hid hb
            have hj0 : (0 : Int) ≤ (j : Int) := by omega
            have hjn : (j : Int) < (N.size : Int) := by omega
            clear hnew hlow hst hb hrng
            go_wp2_with fail
            go_roundw
            case rel => exact ⟨j + 1, by omega, by go_num, Hnew.out, Hbb.out.setCell (Nat.le_refl _) _⟩
            case measure => simp [intOf]; omega
          · obtain rfl : j = N.size := by omega
            obtain ⟨he, hcells⟩ := gSt_end hst
            have hK6 := HK5.out.later hb
            have HK6 := Lib.hid hK6
            have hpick := pick_want HwN.out F Hisw.out
            have hva := values_calls F A2 c2 ⟨#[]⟩ N m wr (hK6.lin Hsm.out) Hmay.out (by omega) (by rw [showL_len]; have := Hfl.out; show _ + 2 + 0 ≤ _; omega) (by have := HwN.out.short; omega) hK6.mmW
            rw [hpick.1] at hva
            have HVa := Lib.hid hva
            have a0 := hK6.box.c0
            have a1 := hK6.box.c1
            have Hcells := Lib.hid hcells
            have He := Lib.hid he
            have Hpick := Lib.hid hpick
            clear hva hpick hK6 hst hb he hcells HK5
            go_wp2_with fail
            refine HVa.out.mono ?_
            rintro e w7 ⟨v7, rfl, hrow7, hb7⟩
            have hK7 := HK6.out.later hb7
            have HK7 := Lib.hid hK7
            have hbz7b := hK7.o
            have hcl : ∀ i, i < N.size → w7.cell? ⟨wo.heap.size, 0 + i, none⟩ = some (.int .u8 ((N.data.toList.map fun c => ((lowB c).toNat : Int)).getD i 0)) := fun i hi => cell_later hb7 (Hcells.out i hi)
            have hconv := run_convert_bytes_arg (P := Tryd.prog) w7 60 5 Tryd.underlying60 Tryd.underlying5 wo.heap.size 0 N.size (grownCap wo N.size 0 5) _ (by rw [List.length_map]; rfl) hcl 9 Tryd.underlying9
            rw [He.out] at hconv
            obtain ⟨A7, c7, rfl⟩ := own_slice hrow7
            have hbz7 := HK6.out.o
            have hvb := values_calls F A2 c2 ⟨#[]⟩ (greatB N) m w7 (hK7.lin Hsm.out) Hmay.out (by omega) (by rw [showL_len]; have := Hfl.out; show _ + 2 + 0 ≤ _; omega) (by rw [great_size]; have := HwN.out.short; omega) hK7.mmW
            rw [Hpick.out.2] at hvb
            have HVb := Lib.hid hvb
            have b0 := hK7.box.c0
            have b1 := hK7.box.c1
            have Row7 := Lib.hid hrow7
            clear HVa hK7 hcl hb7 hvb a0 a1 HK6 Hcells hrow7
            go_wp2_with fail
            refine HVb.out.mono ?_
            rintro e w8 ⟨v8, rfl, hrow8, hb8⟩
            clear hconv
            obtain ⟨A8, c8, rfl⟩ := own_slice hrow8
            have hK8 := HK7.out.later hb8
            have HK8 := Lib.hid hK8
            have hrow78 := ownsRow_laterE hb8 Row7.out
            have Row78 := Lib.hid hrow78
            have Row8 := Lib.hid hrow8
            have d0 := hK8.box.c0
            have d1 := hK8.box.f0
            have ho := hK8.o
            have hz78 := hb8.size
            clear HVb hK8 hb8 HK7 Row7 b0 b1 hrow78 hrow8
            have hr8 := HK8.out.row
            have hL := wantV_len N F
            have hFs : F.length + 1 ≤ 7 := by omega
            go_wp2_with (at_builtin; refine wpList_append_lies _ rfl _ _ 43 rfl w.heap.size 48 i1 _ 2 32 Tryd.underlying43 hi1 hy0 hy1 hy2 rfl (by omega) (.slice A2 F.length c2) F.length (fldCells F) rfl (hr8.alloc _) ⟨w8.heap.size, 0, none⟩ 1 1 [.string N, .string ⟨#[118]⟩] rfl rfl (World.news_of_block (cs := #[.string N, .string ⟨#[118]⟩]) (t := 48) (fr := (0, 0)) (heap_alloc_new w8 _)) (by simp [Value.oneCell']) (by omega) (by unfold maxLen; omega) (by omega) (by simp; omega) _ rfl ?_; intro g9 cap9 w9 hown9 hgrow9 hat9 hglt9; have hfd := HK8.out.field (f := ⟨N, ⟨#[118]⟩⟩) hown9 hgrow9 hat9 (by simp); have e0 := hfd.1.c0; have e1 := hfd.1.f0; have e2 := hfd.1.c1; have Hfd := Lib.hid hfd; clear hown9 hgrow9 hat9 hfd)
            obtain ⟨_, hrow9, hbox9, hbel9, hwr9, hkeep⟩ := Hfd.out
            have hN9 : ∀ f ∈ F ++ [(⟨N, ⟨#[118]⟩⟩ : Fld)], IsW f.name := by
              intro f hf
              rcases List.mem_append.1 hf with hf | hf
              · exact Hisw.out f hf
              · simp only [List.mem_cons, List.not_mem_nil, or_false] at hf
                subst hf
                exact HwN.out
            have hM9 : ∀ f ∈ F ++ [(⟨N, ⟨#[118]⟩⟩ : Fld)], MayF f := by
              intro f hf
              rcases List.mem_append.1 hf with hf | hf
              · exact Hmay.out f hf
              · simp only [List.mem_cons, List.not_mem_nil, or_false] at hf
                subst hf
                exact mayV N HwN.out
            have hS9 : ∀ f ∈ F ++ [(⟨N, ⟨#[118]⟩⟩ : Fld)], f.name.size ≤ 100000 ∧ f.value.size ≤ 100000 := by
              intro f hf
              rcases List.mem_append.1 hf with hf | hf
              · exact Hsm.out f hf
              · simp only [List.mem_cons, List.not_mem_nil, or_false] at hf
                subst hf
                exact ⟨by show N.size ≤ _; omega, by show (1 : Nat) ≤ 100000; omega⟩
            have hF9 : (F ++ [(⟨N, ⟨#[118]⟩⟩ : Fld)]).length = F.length + 1 := by simp
            have hlin9 : kLin.Row (w9.setCell ⟨w1.heap.size, 0, none⟩ (.slice (some ⟨g9, 0, none⟩) (F.length + 1) cap9)) (some ⟨g9, 0, none⟩) (F ++ [(⟨N, ⟨#[118]⟩⟩ : Fld)]) := by
              obtain ⟨A', c', e, hl⟩ := ownsRow_lin hrow9 hF9 hS9
              simp only [Value.slice.injEq, true_and] at e
              obtain ⟨rfl, rfl⟩ := e
              exact hl
            have hsz9 : (showL (F ++ [(⟨N, ⟨#[118]⟩⟩ : Fld)]) (bs (⟨#[]⟩ : ByteArray))).length ≤ 2000 := by
              rw [showL_len]
              unfold fldsL
              rw [List.flatMap_append, List.length_append, List.flatMap_cons, List.flatMap_nil, List.append_nil, fldL_len]
              have h1 := Hfl.out
              unfold fldsL at h1
              show _ + (N.size + 1 + 4) + 2 + 0 ≤ 2000
              omega
            have hvc := values_calls (F ++ [(⟨N, ⟨#[118]⟩⟩ : Fld)]) (some ⟨g9, 0, none⟩) cap9 ⟨#[]⟩ N m _ hlin9 hM9 (by omega) hsz9 (by omega) (cell_later hbel9 HK8.out.mm)
            have hp9 : (pickV N (F ++ [(⟨N, ⟨#[118]⟩⟩ : Fld)])).length = (wantV N F).length + 1 := by
              rw [(pick_want HwN.out _ hN9).1, wantV_snoc, if_pos (by unfold eqN; exact beq_self_eq_true _), List.length_append]; rfl
            rw [hF9] at hvc
            have HVc := Lib.hid hvc
            have hsmw := wantV_small (n := N) Hsm.out
            have h7 := row_str7 (hkeep _ _ _ _ Row78.out (by omega)) rfl hsmw
            have h8 := row_str7 (hkeep _ _ _ _ Row8.out (by omega)) rfl hsmw
            have hw := row_str7 hwr9 rfl hsmw
            have H7 := Lib.hid h7
            have H8 := Lib.hid h8
            have Hw9 := Lib.hid hw
            have Hbel9 := Lib.hid hbel9
            have hx0 := hbox9.c0
            have hx1 := hbox9.c1
            have Hp9 := Lib.hid hp9
            clear hrow9 hwr9 hkeep hlin9 hvc h7 h8 hw hbel9 hbox9 Hfd Row78 Row8 HK8 hsz9 hM9 hN9 hS9 hF9 hr8 hp9 hsmw e0 e1 e2 d0 d1 ho hbz7 hbz7b
            generalize w9.setCell ⟨w1.heap.size, 0, none⟩ (.slice (some ⟨g9, 0, none⟩) (F.length + 1) cap9) = w10 at *
            refine HVc.out.mono ?_
            rintro e w11 ⟨v11, rfl, hrow11, hb11⟩
            rw [Hp9.out] at hrow11
            obtain ⟨A11, c11, rfl⟩ := own_slice hrow11
            have hbw11 := Hbel9.out.trans (hb11.mono Hbel9.out.size)
            have hs11 := hbw11.size
            have K7 := Lib.hid (H7.out.later hb11)
            have K8 := Lib.hid (H8.out.later hb11)
            have Kw := Lib.hid (Hw9.out.later hb11)
            have Hbw11 := Lib.hid hbw11
            clear HVc hb11 hrow11 hbw11 H7 H8 Hw9 Hbel9 hx0 hx1
            go_wp2_with fail
            refine (same_texts (wantV N F) A7 Aw c7 cw w11 K7.out Kw.out (by omega)).mono ?_
            rintro e w12 ⟨rfl, hb12⟩
            have K8b := Lib.hid (K8.out.later hb12)
            have Kwb := Lib.hid (Kw.out.later hb12)
            have hbw12 := Hbw11.out.trans (hb12.mono hs11)
            have Hbw12 := Lib.hid hbw12
            clear hb12 hbw12
            go_wp2_with fail
            refine (same_texts (wantV N F) A8 Aw c8 cw w12 K8b.out Kwb.out (by omega)).mono ?_
            rintro e w13 ⟨rfl, hb13⟩
            have Hbw13 := Lib.hid (Hbw12.out.trans (hb13.mono Hbw12.out.size))
            clear hb13
            go_wp2
            go_ret
            exact ⟨rfl, Hbw13.out⟩
end Go.Proofs.YtlbibklbckabnaaDoor
