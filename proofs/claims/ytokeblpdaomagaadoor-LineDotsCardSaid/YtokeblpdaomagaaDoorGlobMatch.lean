/- The function glob.Match: what it returns for every kind, text and pattern of bounded length. -/
import Derived.Test.YtokeblpdaomagaaDoorGlobPieces
import Derived.Test.YtokeblpdaomagaaDoorGlobMatches
namespace Go.Proofs.YtokeblpdaomagaaDoor
open Go.RowKit Go.Shelf
attribute [local go_sem] Oper.semAt_some

theorem pieces_calls (p : ByteArray) (w : World) :
    Calls Tryd.prog 46 #[.string p] w fun e w' => e = .returned (.func (.func 64) #[] #[.pointer (some ⟨w.heap.size, 0, none⟩)]) ∧ w' = w.alloc (.cells #[.string p] 9) := by
  go_enter Tryd.func46, Tryd.ntmps46
  go_wp2
  go_ret
  exact ⟨rfl, rfl⟩

theorem foldB_size (s : ByteArray) : (foldB s).size = s.size := by
  show (List.map smallB s.data.toList).toArray.size = _
  rw [List.size_toArray, List.length_map]; rfl
theorem info_piece : (Tryd.prog.info? 100).map (fun i => (i.zero, i.size, i.bytes)) = some (some (.agg #[.int .u8 0, .bool false, .bool false]), 3, 3) := by kernel_rfl
theorem pcCells_len (x : Pc) : (pcCells x).length = 3 := rfl
def pcFlat (l : List Pc) : List Value := l.flatMap pcCells
theorem pcFlat_len (l : List Pc) : (pcFlat l).length = l.length * 3 := by
  induction l with
  | nil => rfl
  | cons x l ih => rw [pcFlat, List.flatMap_cons, List.length_append, ← pcFlat, ih, pcCells_len, List.length_cons]; omega
theorem pcFlat_snoc (l : List Pc) (x : Pc) : pcFlat (l ++ [x]) = pcFlat l ++ pcCells x := by simp [pcFlat]
theorem pcFlat_get : ∀ (l : List Pc) (j : Nat) (h : j < l.length) (f : Nat), f < 3 → (pcFlat l)[j * 3 + f]? = (pcCells l[j])[f]?
  | x :: l, 0, _, f, hf => by
    rw [pcFlat, List.flatMap_cons, List.getElem?_append_left (by rw [pcCells_len]; omega)]
    simp
  | x :: l, j + 1, h, f, hf => by
    rw [pcFlat, List.flatMap_cons, List.getElem?_append_right (by rw [pcCells_len]; omega), pcCells_len, show (j + 1) * 3 + f - 3 = j * 3 + f by omega, ← pcFlat, pcFlat_get l j (by simpa using h) f hf]
    rfl
theorem pcAt_of_own {w : World} {base e : Nat} {v : Value} {l : List Pc} (h : w.ownsRow base e 3 v l.length (pcFlat l)) :
    ∃ A c, v = .slice A l.length c ∧ ((A = none ∧ l = []) ∨ ∃ b, A = some ⟨b, 0, none⟩ ∧ PcAt w b l) := by
  rcases h.2 with ⟨rfl, h0⟩ | ⟨g, cap, cur, rfl, _, hgb, hn, hc, hcur, ht⟩
  · obtain rfl := List.length_eq_zero_iff.1 h0
    exact ⟨none, 0, rfl, .inl ⟨rfl, rfl⟩⟩
  · refine ⟨_, _, rfl, .inr ⟨g, rfl, fun j hj => ?_⟩⟩
    have key : ∀ f, f < 3 → w.cell? ⟨g, j * 3 + f, none⟩ = (pcCells l[j])[f]? := by
      intro f hf
      rw [← pcFlat_get l j hj f hf, ← ht, List.getElem?_take_of_lt (by omega)]
      simp [World.cell?, hgb]
    exact ⟨key 0 (by omega), key 1 (by omega), key 2 (by omega)⟩

set_option maxHeartbeats 1000000 in
theorem match_kind (kind : Int) (s p : ByteArray) (w : World) (h : kind < 1 ∨ 3 < kind) :
    Calls Tryd.prog 34 #[.int .i64 kind, .string s, .string p] w fun e w' => e = .returned (.tuple #[.bool false, .int .i64 2]) ∧ Below w.heap.size w w' := by
  rcases h with h | h
  · go_enter Tryd.func34, Tryd.ntmps34
    go_wp2
    go_ret2
    exact ⟨rfl, Below.refl _ _⟩
  · have h' : ¬ kind < 1 := by omega
    go_enter Tryd.func34, Tryd.ntmps34
    go_wp2
    go_ret2
    exact ⟨rfl, Below.refl _ _⟩

set_option maxHeartbeats 1000000 in
theorem match_size (kind : Int) (s p : ByteArray) (w : World) (h1 : 1 ≤ kind) (h3 : kind ≤ 3) (h : 2000 < s.size ∨ 100 < p.size) (hs : s.size ≤ 9223372036854775807) (hp : p.size ≤ 9223372036854775807) :
    Calls Tryd.prog 34 #[.int .i64 kind, .string s, .string p] w fun e w' => e = .returned (.tuple #[.bool false, .int .i64 1]) ∧ Below w.heap.size w w' := by
  by_cases h2 : 2000 < s.size
  · clear h
    go_enter Tryd.func34, Tryd.ntmps34
    go_wp2
    go_ret2
    exact ⟨rfl, Below.refl _ _⟩
  · have h4 : 100 < p.size := by omega
    clear h
    go_enter Tryd.func34, Tryd.ntmps34
    go_wp2
    go_ret2
    exact ⟨rfl, Below.refl _ _⟩

set_option maxHeartbeats 1000000 in
theorem match_is (s p : ByteArray) (w : World) (hs : s.size ≤ 2000) (hp : p.size ≤ 100) :
    Calls Tryd.prog 34 #[.int .i64 1, .string s, .string p] w fun e w' => e = .returned (.tuple #[.bool ((foldB s).toList == (foldB p).toList), .int .i64 0]) ∧ Below w.heap.size w w' := by
  go_enter Tryd.func34, Tryd.ntmps34
  go_wp2_with fail
  refine (fold_calls s _ (by omega)).mono ?_
  rintro e w1 ⟨rfl, hb1⟩
  go_wp2_with fail
  refine (fold_calls p _ (by omega)).mono ?_
  rintro e w2 ⟨rfl, hb2⟩
  go_wp2
  go_ret2
  exact ⟨rfl, hb1.trans (hb2.mono hb1.size)⟩

set_option maxRecDepth 100000 in
set_option maxHeartbeats 4000000 in
theorem match_glob (s p : ByteArray) (w : World) (hs : s.size ≤ 2000) (hp : p.size ≤ 100) :
    Calls Tryd.prog 34 #[.int .i64 3, .string s, .string p] w fun e w' => e = .returned (.tuple #[.bool (mt (foldB s).data.toList (piecesL (foldB p).data.toList)), .int .i64 0]) ∧ Below w.heap.size w w' := by
  have hfp := foldB_size p
  have hfs := foldB_size s
  obtain ⟨i0, hi, hz0, hz1, hz2⟩ := info_parts info_piece
  refine (callsIn_wide (n := 5)).1 ?_
  refine callsIn_of_wp_marks Tryd.func34 rfl trivial ?_ rfl
  simp only [Tryd.ntmps34, List.size_toArray, List.length_cons, List.length_nil, Nat.reduceAdd, Nat.reduceSub, Array.replicate_succ, Array.replicate_zero, List.push_toArray, List.append_toArray, List.nil_append, List.cons_append]
  gi_wp2_with fail
  refine ⟨trivial, ?_⟩
  refine (callsIn_wide.2 (fold_calls s _ (by omega))).mono ?_
  rintro e w1 ⟨rfl, hb1⟩
  gi_wp2_with fail
  refine ⟨trivial, ?_⟩
  refine (callsIn_wide.2 (fold_calls p _ (by omega))).mono ?_
  rintro e w2 ⟨rfl, hb2⟩
  have hb : Below w.heap.size w w2 := hb1.trans (hb2.mono hb1.size)
  clear hb1 hb2
  generalize hE1 : foldB s = fs at *
  generalize hE2 : foldB p = fp at *
  have HE1 := Lib.hid hE1
  have HE2 := Lib.hid hE2
  clear hE1 hE2
  gi_wp2_with fail
  refine ⟨trivial, ?_⟩
  refine (callsIn_wide.2 (pieces_calls _ _)).mono ?_
  rintro e w' ⟨rfl, rfl⟩
  gi_wp2_with fail
  have bO := Boxed.new w2 96 (.slice none 0 0)
  have bN := Boxed.new (w2.alloc (.cells #[.slice none 0 0] 96)) 9 (.string fp)
  rw [World.size_alloc] at bN
  have hB0 : Below w.heap.size w ((w2.alloc (.cells #[.slice none 0 0] 96)).alloc (.cells #[.string fp] 9)) := (hb.alloc hb.size _).alloc (by have := hb.size; simp; omega) _
  refine wpIn_rangeFunc_ownH rfl (by omega) (gf := 64) (lb := #[.pointer (some ⟨w2.heap.size + 1, 0, none⟩)]) rfl trivial (enters_of Tryd.func64 (by kernel_rfl) rfl)
    (pieces_stops _ (by omega) (w2.heap.size + 1) fp (by omega) _ bN) (fun h1 h2 => ⟨Nat.le_trans h1.1 h2.1, h2.2.trans h1.2⟩) (fun W l o o' hl ho h1 h2 => ⟨by simp, World.putObj_heap_other (by simp at hl; omega)⟩) (Below.refl _ _) (fun _ => rfl)
    (fun pre W => ((∃ v, Boxed W w2.heap.size 96 v ∧ W.ownsRow w2.heap.size 100 3 v pre.length (pcFlat pre) ∧ True) ∧ Boxed W (w2.heap.size + 1) 9 (.string fp)) ∧ Below w.heap.size w W)
    (fun _ _ _ => False)
    (OwnFrom.and (OwnFrom.and (Own.from (holdsRow_own w2.heap.size w2.heap.size 96 100 3 (fun pre : List Pc => pre.length) (fun pre => pcFlat pre) (fun _ _ => True)) _) (Own.from (boxed_own _ _ _) _)) (ownFrom_below (Nat.le_refl _) hB0.size))
    (fun _ _ _ _ _ hs _ _ => hs)
    ⟨⟨⟨_, bO.alloc _, World.ownsRow_nil _ _ _ _, trivial⟩, bN⟩, hB0⟩
    (fun x a' W => ∃ Bx, w2.heap.size + 2 ≤ Bx ∧ W.heap[Bx]? = some (.cells (pcCells x).toArray 100 (0, 0)) ∧ a' = { tmps := #[.int .i64 3, .string s, .string p, undef, undef, undef, .bool false, .int .i64 0, .string fs, .string fp, .pointer (some ⟨w2.heap.size, 0, none⟩), .pointer (some ⟨Bx, 0, none⟩), .int .i64 3, .bool false, .bool false, .int .i64 3, .bool false, .bool false, .string s, .int .i64 s.size, .bool (decide ((2000 : Int) < s.size)), .bool (decide ((2000 : Int) < s.size)), .string p, .int .i64 p.size, .bool (decide ((100 : Int) < p.size)), .bool (decide ((2000 : Int) < s.size) || decide ((100 : Int) < p.size)), .string s, .string fs, .string p, .string fp, .int .i64 3, .bool false, .bool false, undef, undef, undef, .bool false, .bool false, undef, undef, undef, .string fp, .func (.func 64) #[] #[.pointer (some ⟨w2.heap.size + 1, 0, none⟩)], pcVal x, undef, undef, undef, undef, undef, undef, undef], defers := [] })
    ?hax ?assign ?body ?done ?stop
  case hax =>
    rintro x a' _ X Y row ⟨Bx, h1, h2, h3⟩ hg hrow
    refine ⟨Bx, h1, (hg.block Bx (Array.getElem?_eq_some_iff.1 h2).1 (fun e => ?_)).trans h2, h3⟩
    obtain ⟨_, o, ho, hc⟩ := hrow Bx e.symm
    rw [h2] at ho; cases ho; cases hc
  case assign =>
    rintro l pre x W K ⟨⟨⟨v, hv, hrow, _⟩, hN⟩, hB⟩ hK
    dsimp only [pcVal] at hK ⊢
    gi_wp2
    exact hK _ _ ((KeepsOthers.alloc _ _).from _) ⟨by simp, Below.heap_alloc _ _ _ hN.lt⟩ ⟨⟨⟨v, hv.alloc _, hrow.alloc _, trivial⟩, hN.alloc _⟩, hB.alloc hB.size _⟩ ⟨W.heap.size, hN.lt, World.alloc_heap_new W _, rfl⟩
  case body =>
    rintro l pre x a' W _ _ ⟨⟨⟨v, hv, hrow, _⟩, hN⟩, hB⟩ ⟨Bx, hBx, hbx, rfl⟩ hlt
    have hc := hv.cell
    have hx0 : W.cell? ⟨Bx, 0, none⟩ = some (.int .u8 x.c.toNat) := by simp [World.cell?, hbx, pcCells]
    have hx1 : W.cell? ⟨Bx, 1, none⟩ = some (.bool x.one) := by simp [World.cell?, hbx, pcCells]
    have hx2 : W.cell? ⟨Bx, 2, none⟩ = some (.bool x.many) := by simp [World.cell?, hbx, pcCells]
    dsimp only [pcVal]
    have hcl : ∀ (j : Nat) (u : Value), (pcCells x)[j]? = some u → (W.alloc (.cells #[.int .u8 x.c.toNat, .bool x.one, .bool x.many] 100)).cell? ((⟨W.heap.size, 0, none⟩ : Addr).add j) = some u := by
      intro j u hu
      have h0 := World.alloc_heap_new W (.cells #[.int .u8 x.c.toNat, .bool x.one, .bool x.many] 100)
      have hp : (⟨W.heap.size, 0, none⟩ : Addr).add j = ⟨W.heap.size, 0 + j, none⟩ := by unfold Addr.add; split <;> simp_all
      rw [hp, Nat.zero_add, ← hu]
      simp only [World.cell?, h0]
      simp [pcCells]
    have hlt1 := hv.lt
    have Hcl := Lib.hid hcl
    clear hcl
    gi_wp2_with (gi_at_builtin; refine wpListIn_append_own _ rfl _ _ 96 rfl w2.heap.size 100 i0 (.agg #[.int .u8 0, .bool false, .bool false]) 3 3 Tryd.underlying96 hi hz0 hz1 hz2 rfl (by decide) _ _ _ rfl (hrow.alloc _) ⟨W.heap.size, 0, none⟩ 1 1 (pcCells x) rfl rfl Hcl.out (by simp [pcCells, Value.oneCell']) (by unfold maxLen; omega) (by omega) (by simp; omega) ?_; intro v' w1 hown' hgrow _; obtain ⟨g', cap', rfl⟩ := ownsRow_succ hown'; obtain ⟨hv1, hv2, hr2, hk2, hb2⟩ := hv.appended (by decide) hrow (Nat.le_of_lt hlt1) (Nat.le_refl _) hown' hgrow; have hc1 := hv1.cell; have hf1 := hv1.frozen)
    have hN2 : Boxed (w1.setCell ⟨w2.heap.size, 0, none⟩ (.slice (some ⟨g', 0, none⟩) (pre.length + 1) cap')) (w2.heap.size + 1) 9 (.string fp) :=
      ((hN.alloc _).kept hgrow (hN.not_row (by decide) hrow)).other (by omega) _
    exact ⟨hk2.from _, ⟨hk2.size, hN2.trans hN.symm⟩, ⟨⟨_, hv2, by rw [pcFlat_snoc, List.length_append]; exact hr2, trivial⟩, hN2⟩, hB.trans (hb2.mono hb.size)⟩
  case done =>
    rintro D ys W hD rfl ⟨⟨⟨v, hv, hrow, _⟩, hN⟩, hB⟩ hK
    have hc := hv.cell
    obtain ⟨A, c, rfl, hA⟩ := pcAt_of_own hrow
    have hlen : (piecesL fp.data.toList).length ≤ 100 := Nat.le_trans (piecesL_len _) (by have h : fp.data.toList.length = fp.size := rfl; omega)
    gi_wp2_with fail
    refine ⟨trivial, ?_⟩
    refine (callsIn_wide.2 (matches_calls fs _ A c _ (by omega) (by omega) hA)).mono ?_
    rintro e W' ⟨rfl, nq, rfl⟩
    have hKq : (W.drewN nq).heap[D]? = some (.deferred (some [])) := by rw [World.heap_drewN]; exact hK
    gi_wp2
    refine ⟨by simp, .inl ⟨_, _, rfl, run_takeDeferred hKq, ?_⟩⟩
    refine ⟨_, results_tmp2 rfl _ _ _, ?_⟩
    rw [HE1.out, HE2.out]
    exact ⟨rfl, hB.trans ⟨rfl, rfl, rfl, by simp, fun k hk => World.putObj_heap_other (by have := hB0.size; omega)⟩⟩
  case stop =>
    rintro D c pre W _ _ h _
    exact h.elim
end Go.Proofs.YtokeblpdaomagaaDoor
