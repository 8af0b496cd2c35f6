/- The function Parse of package letter: what it returns for every text of at most 2000 bytes. -/
import Derived.Test.YtlbibklbckabnaaDoorLet2
import Derived.Deep.RegionLaw
import Derived.Outline
namespace Go.Proofs.YtlbibklbckabnaaDoor
open Go.RowKit
set_option linter.unusedVariables false
attribute [local go_sem ↓] Go.wp_at_zero Go.wp_at_succ

/-- What Parse ends in. -/
def ParseOk (w : World) (R : PRes) (e : Ending) (w' : World) : Prop := Below w.heap.size w w' ∧ match R with
  | .ok fs body => ∃ v, e = .returned (.tuple #[.agg #[v, .string (mkS body)], .int .i64 0, .int .i64 0]) ∧ w'.ownsRow w.heap.size 48 2 v fs.length (fldCells fs)
  | .bad n err => e = .returned (.tuple #[.agg #[.slice none 0 0, .string ⟨#[]⟩], .int .i64 n, .int .i64 err])
/-- What stands while a message is parsed: the box of the result, the box of the message, its fields. -/
structure KP (w0 W : World) (b : Nat) (v : Value) (body : ByteArray) (fs : List Fld) : Prop where
  r : MB W (b + 1) v body
  z : MB W b (.slice none 0 0) ⟨#[]⟩
  row : W.ownsRow (b + 2) 48 2 v fs.length (fldCells fs)
  bel : Below b w0 W
  size : b + 2 ≤ W.heap.size
theorem KP.later {w0 W W' : World} {b : Nat} {v : Value} {body : ByteArray} {fs : List Fld} (h : KP w0 W b v body fs) (hb : Below W.heap.size W W') : KP w0 W' b v body fs :=
  ⟨h.r.below hb h.r.lt, h.z.below hb h.z.lt, ownsRow_laterE hb h.row, h.bel.trans (hb.mono (by have := h.size; omega)), Nat.le_trans h.size hb.size⟩
theorem below_drewN (w : World) (n : Nat) : Below w.heap.size w (w.drewN n) := ⟨rfl, rfl, rfl, Nat.le_refl _, fun _ _ => rfl⟩
theorem KP.drewN {w0 W : World} {b : Nat} {v : Value} {body : ByteArray} {fs : List Fld} (h : KP w0 W b v body fs) (n : Nat) : KP w0 (W.drewN n) b v body fs := h.later (below_drewN W n)
theorem KP.drew {w0 W : World} {b : Nat} {v : Value} {body : ByteArray} {fs : List Fld} (h : KP w0 W b v body fs) : KP w0 W.drew b v body fs := h.later ⟨rfl, rfl, rfl, Nat.le_refl _, fun _ _ => rfl⟩
theorem KP.shape {w0 W : World} {b : Nat} {v : Value} {body : ByteArray} {fs : List Fld} (h : KP w0 W b v body fs) : ∃ A c, v = .slice A fs.length c := own_slice h.row
theorem fldCells_set : ∀ (l : List Fld) (q : Nat) (a : Fld) (v : ByteArray), l[q]? = some a → (fldCells l).set (q * 2 + 1) (.string v) = fldCells (l.set q ⟨a.name, v⟩)
  | [], q, a, v, h => by simp at h
  | b :: l, 0, a, v, h => by
    simp at h
    subst h
    rfl
  | b :: l, q + 1, a, v, h => by
    have ih := fldCells_set l q a v (by simpa using h)
    have e : fldCells (b :: l) = .string b.name :: .string b.value :: fldCells l := rfl
    have e2 : fldCells ((b :: l).set (q + 1) ⟨a.name, v⟩) = .string b.name :: .string b.value :: fldCells (l.set q ⟨a.name, v⟩) := rfl
    rw [e, e2, ← ih, show (q + 1) * 2 + 1 = (q * 2 + 1) + 2 by omega]
    rfl
theorem KP.elem {w0 W : World} {b g n c : Nat} {body : ByteArray} {fs : List Fld} (h : KP w0 W b (.slice (some ⟨g, 0, none⟩) n c) body fs) (q : Nat) (a : Fld) (hq : fs[q]? = some a) :
    W.cell? ⟨g, q * 2 + 1, none⟩ = some (.string a.value) ∧ W.frozen? ⟨g, q * 2 + 1, none⟩ = false := by
  have hl : q < fs.length := (List.getElem?_eq_some_iff.1 hq).1
  obtain ⟨_, _, hsl⟩ := h.shape
  simp only [Value.slice.injEq] at hsl
  obtain ⟨_, rfl, _⟩ := hsl
  exact ⟨(h.row.cellAt (q * 2 + 1) (by omega)).trans (fldCells_get fs q a hq).2, h.row.frozenAt _⟩
theorem KP.put {w0 W : World} {b g n c : Nat} {body : ByteArray} {fs : List Fld} (h : KP w0 W b (.slice (some ⟨g, 0, none⟩) n c) body fs) (q : Nat) (a : Fld) (hq : fs[q]? = some a) (v : ByteArray) :
    KP w0 (W.setCell ⟨g, q * 2 + 1, none⟩ (.string v)) b (.slice (some ⟨g, 0, none⟩) n c) body (fs.set q ⟨a.name, v⟩) := by
  have hg : b + 2 ≤ g := own_base' h.row g rfl
  obtain ⟨_, _, hsl⟩ := h.shape
  simp only [Value.slice.injEq] at hsl
  obtain ⟨_, rfl, _⟩ := hsl
  have hst := (h.row.stored (q * 2 + 1) (.string v)).1
  rw [fldCells_set fs q a v hq] at hst
  refine ⟨h.r.other (by omega) _ _, h.z.other (by omega) _ _, ?_, h.bel.setCell (p := ⟨g, q * 2 + 1, none⟩) (by show b ≤ g; omega) _, by have := h.size; simpa using this⟩
  rw [List.length_set]
  exact hst
theorem KP.body {w0 W : World} {b : Nat} {v : Value} {body : ByteArray} {fs : List Fld} (h : KP w0 W b v body fs) (s : ByteArray) : KP w0 (W.setCell ⟨b + 1, 1, none⟩ (.string s)) b v s fs :=
  ⟨h.r.set1 s, h.z.other (by omega) _ _, ownsRow_setCell_below h.row (by show b + 1 < b + 2; omega) _, h.bel.setCell (p := ⟨b + 1, 1, none⟩) (Nat.le_succ _) _, by have := h.size; simpa using this⟩
theorem own_ptr {w : World} {base e size n : Nat} {v : Value} {xs : List Value} (h : w.ownsRow base e size v n xs) (h0 : 0 < n) : ∃ g c, v = .slice (some ⟨g, 0, none⟩) n c := by
  rcases h.2 with ⟨_, h⟩ | ⟨g, cap, cur, h, _⟩
  · omega
  · exact ⟨g, cap, h⟩
theorem goOn_snoc (fs : List Fld) (f : Fld) (l : List UInt8) : goOn (fs ++ [f]) l = fs ++ [⟨f.name, f.value ++ mkS l⟩] := by simp [goOn]
theorem trim_keepP (s : ByteArray) {w0 W : World} {b : Nat} {v : Value} {body : ByteArray} {fs : List Fld} (hs : s.size ≤ 100000) (h : KP w0 W b v body fs) :
    Calls Tryd.prog 37 #[.string s, .string ⟨#[32, 9]⟩] W fun e w' => e = .returned (.string (mkS (trimL (bs s)))) ∧ KP w0 w' b v body fs :=
  (trim_calls s W hs).mono fun _ _ ⟨he, hb⟩ => ⟨he, h.later hb⟩
theorem byteT {c : UInt8} {n : Nat} (hn : n < 256) (h : c = UInt8.ofNat n) : ((c.toNat : Int) == (n : Int)) = true := by
  subst h
  simp [UInt8.toNat_ofNat', Nat.mod_eq_of_lt hn]
theorem byteF {c : UInt8} {n : Nat} (hn : n < 256) (h : c ≠ UInt8.ofNat n) : ((c.toNat : Int) == (n : Int)) = false := by
  rw [beq_eq_false_iff_ne]
  intro e
  exact h (UInt8.toNat_inj.1 (by rw [UInt8.toNat_ofNat', Nat.mod_eq_of_lt hn]; omega))
theorem grown_kp {w0 W W' : World} {b : Nat} {v : Value} {body : ByteArray} {fs : List Fld} {o : Obj} (h : KP w0 W b v body fs) (hg : (W.alloc o).grownBy W' v.ownBlock) :
    MB W' (b + 1) v body ∧ MB W' b (.slice none 0 0) ⟨#[]⟩ ∧ Below b w0 W' ∧ b + 2 ≤ W'.heap.size := by
  have hs := h.size
  have h1 : Below (b + 2) W W' := ((Below.refl _ W).alloc hs o).grown hg (by simp; omega) (fun k e => own_base' h.row k e)
  exact ⟨h.r.below h1 (by omega), h.z.below h1 (by omega), h.bel.trans (h1.mono (by omega)), Nat.le_trans hs h1.size⟩
theorem trim_len (fs : List Fld) (j : Nat) (h : j ≤ fs.length) : ((fs.take j).map trimF ++ fs.drop j).length = fs.length := by
  rw [List.length_append, List.length_map, List.length_take, List.length_drop]; omega
theorem trim_get (fs : List Fld) (j : Nat) (h : j < fs.length) : ((fs.take j).map trimF ++ fs.drop j)[j]? = some fs[j] := by
  rw [List.getElem?_append_right (by rw [List.length_map, List.length_take]; omega), List.length_map, List.length_take, Nat.min_eq_left (by omega), Nat.sub_self, List.drop_eq_getElem_cons h]
  rfl
theorem trim_step (fs : List Fld) (j : Nat) (h : j < fs.length) : ((fs.take j).map trimF ++ fs.drop j).set j (trimF fs[j]) = (fs.take (j + 1)).map trimF ++ fs.drop (j + 1) := by
  rw [List.set_append, if_neg (by rw [List.length_map, List.length_take]; omega), List.length_map, List.length_take, Nat.min_eq_left (by omega), Nat.sub_self, List.drop_eq_getElem_cons h, List.set_cons_zero, List.take_succ_eq_append_getElem h, List.map_append, List.append_assoc]
  rfl
def strLen : Value → Nat
  | .string s => s.size
  | _ => 0

set_option maxRecDepth 100000 in
set_option maxHeartbeats 8000000 in
theorem parse_calls (s : ByteArray) (m : Int) (w : World) (hs : s.size ≤ 2000) (hm : w.cell? ⟨0, 0, none⟩ = some (.int .i64 m)) (R : PRes) (hR : parseL (s.size + 1) 0 [] (bs s) = R) :
    Calls Tryd.prog 22 #[.string s] w fun e w' => ParseOk w R e w' := by
  obtain ⟨i0, hi, hz0, hz1, hz2⟩ := info_parts info_fld
  have HR := Lib.hid hR
  clear hR
  go_enter Tryd.func22, Tryd.ntmps22
  go_wp2_with fail

  have hw0 : ∃ W0 : World, W0 = (w.alloc (.cells #[.slice none 0 0, .string ⟨#[]⟩] 45)).alloc (.cells #[.slice none 0 0, .string ⟨#[]⟩] 45) := ⟨_, rfl⟩
  obtain ⟨W0, hW0⟩ := hw0
  have hK0 : KP w W0 w.heap.size (.slice none 0 0) ⟨#[]⟩ [] := by
    have hb0 : Below w.heap.size w W0 := by
      rw [hW0]
      exact ((Below.refl _ w).alloc (Nat.le_refl _) _).alloc (by simp) _
    refine ⟨?_, ?_, World.ownsRow_nil _ _ _ _, hb0, ?_⟩
    · rw [hW0]
      have h := World.alloc_heap_new (w.alloc (.cells #[.slice none 0 0, .string ⟨#[]⟩] 45)) (.cells #[.slice none 0 0, .string ⟨#[]⟩] 45)
      have e : (w.alloc (.cells #[.slice none 0 0, .string ⟨#[]⟩] 45)).heap.size = w.heap.size + 1 := by simp
      rw [e] at h
      exact h
    · rw [hW0]
      exact (((Below.refl _ (w.alloc (.cells #[.slice none 0 0, .string ⟨#[]⟩] 45))).alloc (Nat.le_refl _) _).block w.heap.size (by simp)).trans (World.alloc_heap_new w _)
    · rw [hW0]; simp
  rw [← hW0]
  have HK0 := Lib.hid hK0
  clear hW0 hK0
  go_loopw [0, 6] (fun t i wr => ∃ (k f : Nat) (v : Value) (fs : List Fld) (r : ByteArray), i = .int .i64 k ∧ t = .string r ∧ r.size < f ∧ k + r.size ≤ 2000 ∧ fs.length ≤ 30 ∧ (∀ x ∈ fs, x.name.size + x.value.size + r.size ≤ 2000) ∧ Hid (parseL f k fs (bs r) = R) ∧ Hid (KP w wr w.heap.size v ⟨#[]⟩ fs)) (fun t _ _ => strLen t)
  case atStart => exact ⟨0, _, _, [], s, rfl, rfl, Nat.lt_succ_self _, by omega, by decide, by simp, HR, HK0⟩
  case round =>
    obtain ⟨k, f, v, fs, r, rfl, rfl, hf, hkr, hfl, hfs, HP, HK⟩ := hrel
    clear HR HK0
    obtain ⟨f, rfl⟩ : ∃ q, f = q + 1 := ⟨f - 1, by omega⟩
    obtain ⟨A, c, rfl⟩ := HK.out.shape
    have hP := HP.out
    rw [parseL] at hP
    cases hcr : crlfL (bs r) with
    | none =>
      rw [hcr] at hP
      obtain rfl : R = .bad k 4 := hP.symm
      have HC := Lib.hid (crlf_none r hcr m wr (by omega) (cell_later HK.out.bel hm))
      have hmr := HK.out.z
      have d0 := hmr.c0
      have d1 := hmr.c1
      have g0 := hmr.f0
      have g1 := hmr.f1
      clear hP hcr hmr hfs
      go_wp2_with fail
      refine HC.out.mono ?_
      rintro e w1 ⟨rfl, n1, rfl⟩
      clear HC
      go_wp2_with fail
      exact bodyPost_ret (v := .tuple #[.agg #[.slice none 0 0, .string ⟨#[]⟩], .int .i64 k, .int .i64 4]) (by simp [results, Tryd.results22, go_sem, d0, d1]) rfl ⟨((HK.out.drewN n1).bel.setCell (p := ⟨w.heap.size, 0, none⟩) (Nat.le_refl _) _).setCell (p := ⟨w.heap.size, 1, none⟩) (Nat.le_refl _) _, rfl⟩
    | some x =>
      obtain ⟨la, lb⟩ := x
      have hcl := crlfL_len _ _ _ hcr
      rw [bs_len] at hcl
      rw [hcr] at hP
      dsimp only at hP
      have HC := Lib.hid (crlf_some r la lb hcr m wr (by omega) (cell_later HK.out.bel hm))
      have hls : (mkS la).size = la.length := mkS_size la
      have hlb : (mkS lb).size = lb.length := mkS_size lb
      by_cases hla : la = []
      · subst hla
        rw [if_pos rfl] at hP
        obtain rfl : R = .ok (fs.map trimF) lb := hP.symm
        have hemp : ((mkS []).toList == []) = true := by rw [toList_bs]; rfl
        have hHK := HK.out
        have k0 := hHK.r.c0
        have k1 := hHK.r.c1
        have k2 := hHK.r.f1
        have HKB := fun n1 => Lib.hid ((hHK.drewN n1).body (mkS lb))
        have hszs : ∀ q, (h : q < fs.length) → fs[q].value.size ≤ 2000 := fun q h => by have := hfs fs[q] (List.getElem_mem h); omega
        have Hszs := Lib.hid hszs
        clear hP HP hHK hfs hcr hcl hls hlb hkr hf hszs
        go_wp2_with fail
        refine HC.out.mono ?_
        rintro e w1 ⟨rfl, n1, rfl⟩
        clear HC
        have hKB := HKB n1
        clear HKB
        go_wp2_with fail
        generalize (wr.drewN n1).setCell ⟨w.heap.size + 1, 1, none⟩ (.string (mkS lb)) = w2 at *
        clear HK k0 k1 k2 hemp
        go_loopw [10, 68] (fun _ t w3 => ∃ j : Nat, j ≤ fs.length ∧ t = .int .i64 j ∧ Hid (KP w w3 w.heap.size (.slice A fs.length c) (mkS lb) ((fs.take j).map trimF ++ fs.drop j))) (fun _ t _ => fs.length - (intOf t).toNat)
        case atStart => exact ⟨0, Nat.zero_le _, rfl, hKB⟩
        case round =>
          obtain ⟨j, hj, rfl, HKj⟩ := hrel
          clear hKB
          by_cases hlt : j < fs.length
          · have hget : ((fs.take j).map trimF ++ fs.drop j)[j]? = some fs[j] := trim_get fs j hlt
            have hstep := trim_step fs j hlt
            have hKj := HKj.out
            have hfl2 := trim_len fs j hj
            obtain ⟨g, cc, hsl⟩ := own_ptr hKj.row (by rw [hfl2]; omega)
            simp only [Value.slice.injEq] at hsl
            obtain ⟨rfl, hdr, rfl⟩ := hsl
            clear hdr
            have hsz := Hszs.out j hlt
            have k0 := hKj.r.c0
            have k1 := (hKj.elem _ _ hget).1
            have HKd := Lib.hid hKj.drew
            have Hget := Lib.hid hget
            have Hstep := Lib.hid hstep
            have hj0 : (0 : Int) ≤ (j : Int) := by omega
            have hjn : (j : Int) < (fs.length : Int) := by omega
            clear hKj hget hstep hfl2
            generalize fs[j] = z at *
            go_wp2_with fail
            go_region_law (first
              | (go_simp; go_at_call 37; (with_reducible refine (trim_keepP z.value (by omega) HKd.out).mono ?_); rintro e w9 ⟨rfl, hK⟩; have C2 := Lib.hid hK; have e0 := hK.r.c0; have e1 := (hK.elem _ _ Hget.out).1; have e2 := (hK.elem _ _ Hget.out).2; clear hK))
            all_goals
              have hput := C2.out.put _ _ Hget.out (mkS (trimL (bs z.value)))
              rw [show (⟨z.name, mkS (trimL (bs z.value))⟩ : Fld) = trimF z from rfl, Hstep.out] at hput
              have HP2 := Lib.hid hput
              clear hput C2 e0 e1 e2
              go_wp2
              go_roundw
              case rel => exact ⟨j + 1, by omega, by go_num, HP2⟩
              case measure => simp [intOf]; omega
          · obtain rfl : j = fs.length := by omega
            have hKj := HKj.out
            rw [List.take_length, List.drop_length, List.append_nil] at hKj
            have k0 := hKj.r.c0
            have k1 := hKj.r.c1
            have z0 := hKj.z.c0
            have z1 := hKj.z.c1
            have y0 := hKj.z.f0
            have y1 := hKj.z.f1
            have HKe := Lib.hid hKj
            clear hKj HKj
            go_wp2_with fail
            exact bodyPost_ret (v := .tuple #[.agg #[.slice A fs.length c, .string (mkS lb)], .int .i64 0, .int .i64 0]) (by simp [results, Tryd.results22, go_sem, z0, z1]) rfl ⟨(HKe.out.bel.setCell (p := ⟨w.heap.size, 0, none⟩) (Nat.le_refl _) _).setCell (p := ⟨w.heap.size, 1, none⟩) (Nat.le_refl _) _, _, rfl, ownsRow_base (by omega) (ownsRow_setCell_below (ownsRow_setCell_below HKe.out.row (a := ⟨w.heap.size, 0, none⟩) (by show w.heap.size < w.heap.size + 2; omega) _) (a := ⟨w.heap.size, 1, none⟩) (by show w.heap.size < w.heap.size + 2; omega) _)⟩
      · rw [if_neg hla] at hP
        have hemp : ((mkS la).toList == []) = false := by rw [toList_bs, bs_mkS]; simpa using hla
        have hla0 : 0 < (mkS la).size := by rw [hls]; exact List.length_pos_iff.2 hla
        have hhd : la.headD 0 = (mkS la)[0] := by
          cases la with
          | nil => exact absurd rfl hla
          | cons c l => rfl
        by_cases hb0 : blkB (la.headD 0) = true ∧ fs ≠ []
        · rw [if_pos hb0] at hP
          obtain ⟨hbl, hne⟩ := hb0
          obtain ⟨fs', fl, rfl⟩ : ∃ fs' fl, fs = fs' ++ [fl] := by
            rcases List.eq_nil_or_concat fs with h | ⟨a, b, h⟩
            · exact absurd h hne
            · exact ⟨a, b, by rw [h, List.concat_eq_append]⟩
          have hfl1 : (fs' ++ [fl]).length = fs'.length + 1 := by simp
          have hHK := HK.out
          rw [hfl1] at hHK hfl
          obtain ⟨g, cc, hsl⟩ := own_ptr (n := fs'.length + 1) (by have := hHK.row; rw [hfl1] at this; exact this) (by omega)
          simp only [Value.slice.injEq, true_and] at hsl
          obtain ⟨rfl, rfl⟩ := hsl
          have hget : (fs' ++ [fl])[fs'.length]? = some fl := by simp
          have hHK1 := hHK.drewN
          have k0 := hHK.r.c0
          have k1 := (hHK.elem _ _ hget).1
          have k2 := (hHK.elem _ _ hget).2
          have hput := fun n1 => (hHK1 n1).put _ _ hget (fl.value ++ mkS la)
          have hset : (fs' ++ [fl]).set fs'.length ⟨fl.name, fl.value ++ mkS la⟩ = fs' ++ [⟨fl.name, fl.value ++ mkS la⟩] := by simp
          rw [hset] at hput
          have Hput := Lib.hid hput
          rw [goOn_snoc] at hP
          have HPn := Lib.hid hP
          have hszf := hfs fl (by simp)
          have hsum : fl.value.size + (mkS la).size ≤ 4000 := by omega
          have hin : ∀ x ∈ fs' ++ [(⟨fl.name, fl.value ++ mkS la⟩ : Fld)], x.name.size + x.value.size + (mkS lb).size ≤ 2000 := by
            intro x hx
            rcases List.mem_append.1 hx with h | h
            · have := hfs x (List.mem_append_left _ h); omega
            · simp only [List.mem_cons, List.not_mem_nil, or_false] at h
              subst h
              show fl.name.size + (fl.value ++ mkS la).size + _ ≤ _
              rw [ByteArray.size_append]
              omega
          have Hin := Lib.hid hin
          clear hfs hP HP hput hHK hHK1 HK hset hget hcr hfl1 hin hne
          have hcase : ((((mkS la)[0]).toNat : Int) == 32) = true ∨ (((((mkS la)[0]).toNat : Int) == 32) = false ∧ ((((mkS la)[0]).toNat : Int) == 9) = true) := by
            rw [hhd] at hbl
            unfold blkB at hbl
            by_cases h32 : (mkS la)[0] = 32
            · exact .inl (byteT (n := 32) (by decide) h32)
            · refine .inr ⟨byteF (n := 32) (by decide) h32, byteT (n := 9) (by decide) ?_⟩
              simpa [h32] using hbl
          clear hbl hhd
          go_wp2_with fail
          refine HC.out.mono ?_
          rintro e w1 ⟨rfl, n1, rfl⟩
          clear HC
          rcases hcase with e32 | ⟨e32, e9⟩
          all_goals
            go_wp2_with fail
            go_roundw
            case rel => exact ⟨k + 1, f, _, fs' ++ [⟨fl.name, fl.value ++ mkS la⟩], mkS lb, by go_num, rfl, by omega, by omega, by simpa using hfl, Hin.out, HPn, Lib.hid (Hput.out n1)⟩
            case measure => simp [strLen]; omega
        · rw [if_neg hb0] at hP
          have hcase : (((((mkS la)[0]).toNat : Int) == 32) = true ∧ fs.length = 0) ∨ (((((mkS la)[0]).toNat : Int) == 32) = false ∧ ((((mkS la)[0]).toNat : Int) == 9) = true ∧ fs.length = 0) ∨ (((((mkS la)[0]).toNat : Int) == 32) = false ∧ ((((mkS la)[0]).toNat : Int) == 9) = false) := by
            rw [hhd] at hb0
            unfold blkB at hb0
            have hnil : ∀ h : (mkS la)[0] == 32 || (mkS la)[0] == 9, fs.length = 0 := by
              intro h
              by_cases hf0 : fs = []
              · rw [hf0]; rfl
              · exact absurd ⟨h, hf0⟩ hb0
            by_cases h32 : (mkS la)[0] = 32
            · exact .inl ⟨byteT (n := 32) (by decide) h32, hnil (by simp [h32])⟩
            · by_cases h9 : (mkS la)[0] = 9
              · exact .inr (.inl ⟨byteF (n := 32) (by decide) h32, byteT (n := 9) (by decide) h9, hnil (by simp [h9])⟩)
              · exact .inr (.inr ⟨byteF (n := 32) (by decide) h32, byteF (n := 9) (by decide) h9⟩)
          clear hb0 hhd
          have hHK := HK.out
          have hmr := hHK.z
          have d0 := hmr.c0
          have d1 := hmr.c1
          have g0 := hmr.f0
          have g1 := hmr.f1
          have k0 := hHK.r.c0
          have k1 := hHK.r.f0
          have HK2 := fun n1 => Lib.hid (hHK.drewN n1)
          have hls2 : (mkS la).size ≤ 2000 := by omega
          cases hco : colonL la with
          | none =>
            rw [hco] at hP
            obtain rfl : R = .bad k 3 := hP.symm
            have HC2 := fun n1 => Lib.hid (colon_none (mkS la) hco m (wr.drewN n1) (by omega) (cell_later (HK2 n1).out.bel hm))
            clear hP hmr hHK hfs hco hcr
            go_wp2_with fail
            refine HC.out.mono ?_
            rintro e w1 ⟨rfl, n1, rfl⟩
            clear HC
            have HC3 := HC2 n1
            have HK3 := HK2 n1
            clear HC2 HK2
            rcases hcase with ⟨e32, hf0⟩ | ⟨e32, e9, hf0⟩ | ⟨e32, e9⟩
            all_goals
              go_wp2_with fail
              refine HC3.out.mono ?_
              rintro e w2 ⟨rfl, n2, rfl⟩
              have HK4 := Lib.hid (HK.out.drewN (n1 + n2))
              clear HC3
              go_wp2_with fail
              exact bodyPost_ret (v := .tuple #[.agg #[.slice none 0 0, .string ⟨#[]⟩], .int .i64 k, .int .i64 3]) (by simp [results, Tryd.results22, go_sem, d0, d1]) rfl ⟨(HK4.out.bel.setCell (p := ⟨w.heap.size, 0, none⟩) (Nat.le_refl _) _).setCell (p := ⟨w.heap.size, 1, none⟩) (Nat.le_refl _) _, rfl⟩
          | some y =>
            obtain ⟨ca, cb⟩ := y
            have hcc := colonL_len _ _ _ hco
            rw [hco] at hP
            dsimp only at hP
            have hsa : (mkS ca).size = ca.length := mkS_size ca
            have hsb : (mkS cb).size = cb.length := mkS_size cb
            have HC2 := fun n1 => Lib.hid (colon_some (mkS la) ca cb hco m (wr.drewN n1) (by omega) (cell_later (HK2 n1).out.bel hm))
            cases hna : nameL ca with
            | false =>
              rw [hna, if_pos rfl] at hP
              obtain rfl : R = .bad k 3 := hP.symm
              have HN := fun W => Lib.hid (show Calls Tryd.prog 38 #[.string (mkS ca)] W fun e w' => e = .returned (.bool false) ∧ W = w' by have h := name_calls (mkS ca) W (by omega); rw [bs_mkS, hna] at h; exact h)
              clear hP hmr hHK hfs hco hcr hna
              go_wp2_with fail
              refine HC.out.mono ?_
              rintro e w1 ⟨rfl, n1, rfl⟩
              clear HC
              have HC3 := HC2 n1
              have HK3 := HK2 n1
              clear HC2 HK2
              rcases hcase with ⟨e32, hf0⟩ | ⟨e32, e9, hf0⟩ | ⟨e32, e9⟩
              all_goals
                go_wp2_with fail
                refine HC3.out.mono ?_
                rintro e w2 ⟨rfl, n2, rfl⟩
                have HK4 := Lib.hid (HK.out.drewN (n1 + n2))
                clear HC3
                go_wp2_with fail
                refine (HN _).out.mono ?_
                rintro e w' ⟨rfl, rfl⟩
                go_wp2_with fail
                exact bodyPost_ret (v := .tuple #[.agg #[.slice none 0 0, .string ⟨#[]⟩], .int .i64 k, .int .i64 3]) (by simp [results, Tryd.results22, go_sem, d0, d1]) rfl ⟨(HK4.out.bel.setCell (p := ⟨w.heap.size, 0, none⟩) (Nat.le_refl _) _).setCell (p := ⟨w.heap.size, 1, none⟩) (Nat.le_refl _) _, rfl⟩
            | true =>
              rw [hna, if_neg (by decide)] at hP
              have HN := fun W => Lib.hid (show Calls Tryd.prog 38 #[.string (mkS ca)] W fun e w' => e = .returned (.bool true) ∧ W = w' by have h := name_calls (mkS ca) W (by omega); rw [bs_mkS, hna] at h; exact h)
              by_cases h30 : fs.length = 30
              · rw [if_pos h30] at hP
                obtain rfl : R = .bad k 5 := hP.symm
                have e30 : ((fs.length : Int) == 30) = true := by rw [h30]; rfl
                clear hP hmr hHK hfs hco hcr hna h30
                go_wp2_with fail
                refine HC.out.mono ?_
                rintro e w1 ⟨rfl, n1, rfl⟩
                clear HC
                have HC3 := HC2 n1
                have HK3 := HK2 n1
                clear HC2 HK2
                rcases hcase with ⟨e32, hf0⟩ | ⟨e32, e9, hf0⟩ | ⟨e32, e9⟩
                · rw [hf0] at e30; exact absurd e30 (by decide)
                · rw [hf0] at e30; exact absurd e30 (by decide)
                · go_wp2_with fail
                  refine HC3.out.mono ?_
                  rintro e w2 ⟨rfl, n2, rfl⟩
                  have HK4 := Lib.hid (HK.out.drewN (n1 + n2))
                  clear HC3
                  go_wp2_with fail
                  refine (HN _).out.mono ?_
                  rintro e w' ⟨rfl, rfl⟩
                  go_wp2_with fail
                  exact bodyPost_ret (v := .tuple #[.agg #[.slice none 0 0, .string ⟨#[]⟩], .int .i64 k, .int .i64 5]) (by simp [results, Tryd.results22, go_sem, d0, d1]) rfl ⟨(HK4.out.bel.setCell (p := ⟨w.heap.size, 0, none⟩) (Nat.le_refl _) _).setCell (p := ⟨w.heap.size, 1, none⟩) (Nat.le_refl _) _, rfl⟩
              · rw [if_neg h30] at hP
                have HPn := Lib.hid hP
                have e30 : ((fs.length : Int) == 30) = false := by rw [beq_eq_false_iff_ne]; omega
                have hfl2 : fs.length + 1 ≤ 30 := by omega
                have hin : ∀ x ∈ fs ++ [(⟨mkS ca, mkS cb⟩ : Fld)], x.name.size + x.value.size + (mkS lb).size ≤ 2000 := by
                  intro x hx
                  rcases List.mem_append.1 hx with h | h
                  · have := hfs x h; omega
                  · simp only [List.mem_cons, List.not_mem_nil, or_false] at h
                    subst h
                    show (mkS ca).size + (mkS cb).size + _ ≤ _
                    omega
                have Hin := Lib.hid hin
                clear hP hmr hHK hfs hco hcr hna h30 hin d0 d1 g0 g1
                go_wp2_with fail
                refine HC.out.mono ?_
                rintro e w1 ⟨rfl, n1, rfl⟩
                clear HC
                have HC3 := HC2 n1
                have HK3 := HK2 n1
                clear HC2 HK2
                have hcase2 : (((((mkS la)[0]).toNat : Int) == 32) = true ∧ ((fs.length : Int) ≤ 0)) ∨ (((((mkS la)[0]).toNat : Int) == 32) = false ∧ ((((mkS la)[0]).toNat : Int) == 9) = true ∧ ((fs.length : Int) ≤ 0)) ∨ (((((mkS la)[0]).toNat : Int) == 32) = false ∧ ((((mkS la)[0]).toNat : Int) == 9) = false) := by
                  rcases hcase with ⟨a, b⟩ | ⟨a, a2, b⟩ | h
                  · exact .inl ⟨a, by omega⟩
                  · exact .inr (.inl ⟨a, a2, by omega⟩)
                  · exact .inr (.inr h)
                clear hcase
                rcases hcase2 with ⟨e32, hf0⟩ | ⟨e32, e9, hf0⟩ | ⟨e32, e9⟩
                all_goals
                  go_wp2_with fail
                  refine HC3.out.mono ?_
                  rintro e w2 ⟨rfl, n2, rfl⟩
                  have hK4 := HK3.out.drewN n2
                  have hHN := HN ((wr.drewN n1).drewN n2)
                  clear HC3 k0 k1 HN
                  generalize (wr.drewN n1).drewN n2 = w2 at *
                  have HK3 := Lib.hid hK4
                  have k0 := hK4.r.c0
                  have k1 := hK4.r.f0
                  clear hK4
                  go_wp2_with fail
                  refine hHN.out.mono ?_
                  rintro e w' ⟨rfl, rfl⟩
                  clear hHN
                  go_wp2_with (at_builtin; refine wpList_append_lies _ rfl _ _ 43 rfl (w.heap.size + 2) 48 i0 _ 2 32 Tryd.underlying43 hi hz0 hz1 hz2 rfl (by omega) (.slice A fs.length c) fs.length (fldCells fs) rfl (HK3.out.row.alloc _) ⟨w2.heap.size, 0, none⟩ 1 1 [.string (mkS ca), .string (mkS cb)] rfl rfl (World.news_of_block (cs := #[.string (mkS ca), .string (mkS cb)]) (t := 48) (fr := (0, 0)) (heap_alloc_new w2 _)) (by simp [Value.oneCell']) (by omega) (by unfold maxLen; omega) (by omega) (by have := HK3.out.size; simp; omega) _ rfl ?_; intro g cap w11 hown1 hgrow hat hglt; have hs3 := grown_kp HK3.out hgrow; have s4 := hs3.1.c0; have s5 := hs3.1.f0; have S3 := Lib.hid hs3; have Row1 := Lib.hid hown1; clear hs3 hown1 hgrow hat)
                  go_roundw
                  case rel => exact ⟨k + 1, f, _, fs ++ [⟨mkS ca, mkS cb⟩], mkS lb, by go_num, rfl, by omega, by omega, by rw [List.length_append]; exact hfl2, Hin.out, HPn, Lib.hid ⟨S3.out.1.set0 _, S3.out.2.1.other (by omega) 0 _, by rw [List.length_append, fldCells_append]; exact ownsRow_setCell_below Row1.out (by show w.heap.size + 1 < w.heap.size + 2; omega) _, S3.out.2.2.1.setCell (p := ⟨w.heap.size + 1, 0, none⟩) (Nat.le_succ _) _, by simpa using S3.out.2.2.2⟩⟩
                  case measure => simp [strLen]; omega
end Go.Proofs.YtlbibklbckabnaaDoor
