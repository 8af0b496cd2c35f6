/- book.Encode: what it returns. -/
import Derived.Test.YtpncahklapfoaaaDoorFormOk
import Derived.Test.YtpncahklapfoaaaDoorWide
import Derived.Test.YtpncahklapfoaaaDoorChkBook
import Derived.Lib.AppendStr
import Derived.Lib.SmallJoins
import Derived.Laws.OwnMore
import Derived.Outline
namespace Go.Proofs.YtpncahklapfoaaaDoor
open Go.RowKit
set_option linter.unusedVariables false

/-- What Encode ends in. -/
def EncOk (w : World) (user : Int) (es : List Ent) (e : Ending) (w' : World) : Prop :=
  if checkB user es = 0 then ∃ v, e = .returned (.tuple #[v, .int .i64 0]) ∧ w'.ownsRow w.heap.size 5 1 v (batN user es).length (u8s (batN user es)) ∧ Below w.heap.size w w'
  else e = .returned (.tuple #[.slice none 0 0, .int .i64 (checkB user es)]) ∧ Below w.heap.size w w'

theorem txts_le (a b c : ByteArray) (q : Nat) : (txtsN ([a, b, c].take q)).length ≤ 6 + a.size + b.size + c.size := by
  have h : ∀ l : List ByteArray, ∀ q, (txtsN (l.take q)).length ≤ (txtsN l).length := by
    intro l
    induction l with
    | nil => intro q; simp [txtsN]
    | cons x r ih =>
      intro q
      cases q with
      | zero => simp [txtsN]
      | succ q =>
        have := ih q
        unfold txtsN at this ⊢
        rw [List.take_succ_cons, List.flatMap_cons, List.flatMap_cons, List.length_append, List.length_append]
        omega
  have h2 := h [a, b, c] q
  have h3 : (txtsN [a, b, c]).length = 6 + a.size + b.size + c.size := by
    unfold txtsN
    simp only [List.flatMap_cons, List.flatMap_nil, List.length_append, txtN_len, List.length_nil]
    omega
  omega
theorem at_of {W1 : World} {o : Obj} {n : Nat} {a b : Option Nat} (h : a = b ∨ a = some (W1.alloc o).heap.size) (hs : W1.heap.size = n + 1) : a = b ∨ a = some (n + 2) := by
  rcases h with h | h
  · exact .inl h
  · right; rw [h]; simp; omega
/-- The bytes as far as so many entries. -/
def batK (user : Int) (es : List Ent) (k : Nat) : List UInt8 := [UInt8.ofNat user.toNat, UInt8.ofNat es.length] ++ encsN (es.take k)
theorem batK_succ (user : Int) (es : List Ent) (k : Nat) (h : k < es.length) : batK user es (k + 1) = batK user es k ++ encN es[k] := by
  unfold batK encsN
  rw [List.take_add_one, List.getElem?_eq_getElem h, List.flatMap_append, List.append_assoc]
  simp
theorem batK_full (user : Int) (es : List Ent) : batK user es es.length = batN user es := by unfold batK batN; rw [List.take_length]
theorem batK_len (user : Int) (es : List Ent) (k : Nat) (h : k ≤ 10) (hok : ∀ e ∈ es, OkE e) : (batK user es k).length ≤ 30000 := by
  have := encsN_len (es.take k) (fun e he => hok e (List.mem_of_mem_take he))
  have h2 : (es.take k).length ≤ k := by rw [List.length_take]; omega
  unfold batK
  rw [List.length_append]
  simp only [List.length_cons, List.length_nil]
  omega
set_option maxRecDepth 100000 in
set_option maxHeartbeats 2000000 in
theorem encode_calls (user : Int) (es : List Ent) (A : Option Addr) (c : Nat) (m : Int) (w : World) (hA : EsAt w A es) (hsm : ∀ e ∈ es, SmE e) (hl : es.length ≤ 1000000) (hm : w.cell? ⟨0, 0, none⟩ = some (.int .i64 m)) :
    Calls Tryd.prog 12 #[.agg #[.int .i64 user, .slice A es.length c]] w fun e w' => EncOk w user es e w' := by
  obtain ⟨i0, hi, hz0, hz1, hz2⟩ := info_parts info_u8
  have hbl : Below w.heap.size w (w.alloc (.cells #[.int .i64 user, .slice A es.length c] 25)) := (Below.refl _ w).alloc (Nat.le_refl _) _
  have hck := check_book user es A c m _ (hA.later hbl) hsm hl (cell_later hbl hm)
  have Hck := Lib.hid hck
  clear hck
  have c0 : (w.alloc (.cells #[.int .i64 user, .slice A es.length c] 25)).cell? ⟨w.heap.size, 0, none⟩ = some (.int .i64 user) := by rw [World.cell?_alloc_at _ _ _ _ rfl]; rfl
  have c1 : (w.alloc (.cells #[.int .i64 user, .slice A es.length c] 25)).cell? ⟨w.heap.size, 1, none⟩ = some (.slice A es.length c) := by rw [World.cell?_alloc_at _ _ _ _ rfl]; rfl
  have hsz0 : (w.alloc (.cells #[.int .i64 user, .slice A es.length c] 25)).heap.size = w.heap.size + 1 := by simp
  have C0 := Lib.hid c0
  have C1 := Lib.hid c1
  clear c0 c1
  go_enter Tryd.func12, Tryd.ntmps12
  go_wp2_with fail
  refine Hck.out.mono ?_
  rintro e w1 ⟨rfl, hb1⟩
  have q0 := cell_later hb1 C0.out
  have q1 := cell_later hb1 C1.out
  have hb2 := hbl.trans (hb1.mono hbl.size)
  have hs1 := hb1.size
  rw [hsz0] at hs1
  generalize w.alloc (.cells #[.int .i64 user, .slice A es.length c] 25) = w0 at *
  clear hb1 hbl Hck C0 C1 hm hsz0
  by_cases hz : checkB user es = 0
  · obtain ⟨b1, b2, b3, b4, b5⟩ := batch_ok user es hz
    have hok : ∀ e ∈ es, OkE e := fun e he => form_ok e (b5 e he)
    have hpost : ∀ e w', EncOk w user es e w' = ∃ v, e = .returned (.tuple #[v, .int .i64 0]) ∧ w'.ownsRow w.heap.size 5 1 v (batN user es).length (u8s (batN user es)) ∧ Below w.heap.size w w' := fun e w' => by unfold EncOk; rw [if_pos hz]
    rw [hz]
    clear hz b5
    have Hok := Lib.hid hok
    clear hok
    obtain ⟨O, hO⟩ : ∃ O : Obj, O = .cells #[.int .u8 user, .int .u8 es.length] 5 := ⟨_, rfl⟩
    have q1b : (w1.alloc (.cells #[.int .u8 user, .int .u8 es.length] 5)).cell? ⟨w.heap.size, 1, none⟩ = some (.slice A es.length c) := cell_later ((Below.refl _ w1).alloc (Nat.le_refl _) _) q1
    have hrow0 := World.ownsRow_lit (base := w.heap.size + 1) (e := 5) (size := 1) w1 #[.int .u8 user, .int .u8 es.length] 2 hs1 (by decide) rfl
    have hu8 : u8s [UInt8.ofNat user.toNat, UInt8.ofNat es.length] = [.int .u8 user, .int .u8 es.length] := by
      have e1 : ((UInt8.ofNat user.toNat).toNat : Int) = user := by rw [UInt8.toNat_ofNat']; omega
      have e2 : ((UInt8.ofNat es.length).toNat : Int) = es.length := by rw [UInt8.toNat_ofNat']; omega
      show [Value.int .u8 _, Value.int .u8 _] = _
      rw [e1, e2]
    have hb3 : Below w.heap.size w (w1.alloc (.cells #[.int .u8 user, .int .u8 es.length] 5)) := hb2.alloc (by have := hb2.size; omega) _
    have hs3 : w.heap.size + 1 ≤ (w1.alloc (.cells #[.int .u8 user, .int .u8 es.length] 5)).heap.size := by simp; omega
    rw [show (#[Value.int .u8 user, .int .u8 es.length] : Array Value).toList = u8s [UInt8.ofNat user.toNat, UInt8.ofNat es.length] from hu8.symm] at hrow0
    have Hr0 := Lib.hid hrow0
    have Hb3 := Lib.hid hb3
    have Hs3 := Lib.hid hs3
    have Hpost := Lib.hid hpost
    clear hrow0 hb3 hs3 hu8 hb2 hsm hpost hO O
    go_wp2_with fail
    go_loopw [5, 26] (fun v t wr => ∃ k : Nat, k ≤ es.length ∧ t = .int .i64 k ∧ wr.ownsRow (w.heap.size + 1) 5 1 v (batK user es k).length (u8s (batK user es k)) ∧ Hid (Below w.heap.size w wr) ∧ w.heap.size + 1 ≤ wr.heap.size) (fun _ t _ => es.length - (intOf t).toNat)
    case atStart => exact ⟨0, Nat.zero_le _, rfl, by unfold batK encsN; exact Hr0.out, Hb3, Hs3.out⟩
    case round =>
      obtain ⟨k, hk, rfl, hrow, HB, hsz⟩ := hrel
      clear Hr0 Hb3 Hs3 q1b q0 q1
      by_cases hlt : k < es.length
      · obtain ⟨g, off, rfl, c0, c1, c2, c3, c4, c5⟩ := hA.later HB.out k hlt
        have hx := Hok.out es[k] (List.getElem_mem hlt)
        have hbk := batK_succ user es k hlt
        have hbl := batK_len user es k (by omega) Hok.out
        generalize es[k] = x at *
        generalize batK user es k = L at *
        obtain ⟨kd, bx, ud, fl, ds, tx⟩ := x
        obtain ⟨x1, x2, x3, x4, x5, x6, x7, x8, x9⟩ := hx
        simp only at x1 x2 x3 x4 x5 x6 x7 x8 x9 c0 c1 c2 c3 c4 c5
        have hk0 : (0 : Int) ≤ (k : Int) := by omega
        have hkn : (k : Int) < (es.length : Int) := by omega
        have Hbk := Lib.hid hbk
        clear hbk
        have d := World.alloc_heap_new wr (.cells #[.int .i64 kd, .string bx, .int .i64 ud, .int .i64 fl, .string ds, .string tx] 63)
        have hEB : EB (wr.alloc (.cells #[.int .i64 kd, .string bx, .int .i64 ud, .int .i64 fl, .string ds, .string tx] 63)) wr.heap.size ⟨kd, bx, ud, fl, ds, tx⟩ := d
        have hgw : wr.grownBy (wr.alloc (.cells #[.int .i64 kd, .string bx, .int .i64 ud, .int .i64 fl, .string ds, .string tx] 63)) u5.ownBlock := grown_alloc ⟨rfl, rfl, rfl, Nat.le_refl _, fun _ _ _ => rfl⟩
        have hrw := hrow.alloc (.cells #[.int .i64 kd, .string bx, .int .i64 ud, .int .i64 fl, .string ds, .string tx] 63)
        have hW1s : (wr.alloc (.cells #[.int .i64 kd, .string bx, .int .i64 ud, .int .i64 fl, .string ds, .string tx] 63)).heap.size = wr.heap.size + 1 := by simp
        have hne0 : ∀ q, u5.ownBlock = some q → q < wr.heap.size := fun q hq => (hrow.lt q hq).2
        go_upto_region 8 with fail
        generalize (wr.alloc (.cells #[.int .i64 kd, .string bx, .int .i64 ud, .int .i64 fl, .string ds, .string tx] 63)) = W1 at *
        clear d hA c0 c1 c2 c3 c4 c5
        obtain ⟨d0, d1, d2, d3, d4, d5⟩ := EB.cells hEB
        have hnew := new_cells W1 [.int .u8 kd, .int .u8 fl] 5
        rw [hW1s] at hnew
        have hEBn : ∀ (w' : World) (r : Option Nat), W1.grownBy w' r → r ≠ some wr.heap.size → EB w' wr.heap.size ⟨kd, bx, ud, fl, ds, tx⟩ := fun w' r h hn => (h.block _ (by omega) (fun e => hn e.symm)).trans hEB
        have hu5 : u5.ownBlock ≠ some wr.heap.size := fun h => by have := hne0 _ h; omega
        obtain ⟨un, rfl⟩ : ∃ un : Nat, ud = un := ⟨ud.toNat, by omega⟩
        have hk8 : [Value.int .u8 kd, .int .u8 fl] = u8s [UInt8.ofNat kd.toNat, UInt8.ofNat fl.toNat] := by
          have e1 : ((UInt8.ofNat kd.toNat).toNat : Int) = kd := by rw [UInt8.toNat_ofNat']; omega
          have e2 : ((UInt8.ofNat fl.toNat).toNat : Int) = fl := by rw [UInt8.toNat_ofNat']; omega
          show _ = [Value.int .u8 _, Value.int .u8 _]
          rw [e1, e2]
        generalize hA1 : UInt8.ofNat kd.toNat = a1 at hk8
        generalize hA2 : UInt8.ofNat fl.toNat = a2 at hk8
        have Hk8 := Lib.hid hk8
        have HA1 := Lib.hid hA1
        have HA2 := Lib.hid hA2
        clear hk8 hA1 hA2
        go_wp2_with (at_builtin; refine wpList_append_own_at _ rfl _ _ 27 rfl (w.heap.size + 1) 5 i0 (.int .u8 0) 1 1 Tryd.underlying27 hi hz0 hz1 hz2 rfl (by decide) _ _ _ rfl (hrw.alloc _) ⟨wr.heap.size + 1, 0, none⟩ 2 2 [.int .u8 kd, .int .u8 fl] rfl rfl hnew (by simp [Value.oneCell']) (by unfold maxLen; omega) (by omega) (by simp; omega) ?_; intro v' w2 hown' hgrow _ hat; have hg1 : W1.grownBy w2 u5.ownBlock := (grown_alloc hgrow); have hat2 := at_of hat hW1s; clear hgrow hat; obtain ⟨d0', d1', d2', d3', d4', d5'⟩ := EB.cells (hEBn w2 _ hg1 hu5))
        have hrow2 : w2.ownsRow (w.heap.size + 1) 5 1 v' (L ++ [a1, a2]).length (u8s (L ++ [a1, a2])) := by
          rw [u8s_append, List.length_append, ← Hk8.out]; exact hown'
        have hs2 : wr.heap.size + 1 ≤ w2.heap.size := by have := hg1.size; omega
        have hn2 : v'.ownBlock ≠ some wr.heap.size := by
          rcases hat2 with h | h
          · rw [h]; exact hu5
          · rw [h]; simp
        have hgb : wr.grownBy w2 u5.ownBlock := grown_trans hgw hg1 (.inl rfl)
        have hbw2 := HB.out.trans ((below_grown hgb hrow (by omega)).mono (by omega))
        have Hbw2 := Lib.hid hbw2
        clear hown' hk0 hkn hnew hgb hbw2 d0 d1 d2 d3 d4 d5 hrw hat2 HB hgw hrow
        refine (wide_calls v' (L ++ [a1, a2]) un 3 (w.heap.size + 1) w2 (by omega) hrow2 (by rw [List.length_append]; simp; omega) (by omega) (by omega)).mono ?_
        rintro e w3 ⟨v3, rfl, hrow3, hg3, ho3⟩
        have hb3 := Hbw2.out.trans ((below_grown hg3 hrow2 (by omega)).mono (by omega))
        have hs3 : wr.heap.size + 1 ≤ w3.heap.size := Nat.le_trans hs2 hg3.size
        have hEB3 : EB w3 wr.heap.size ⟨kd, bx, un, fl, ds, tx⟩ := (hg3.block _ (by omega) (fun e => hn2 e.symm)).trans (hEBn w2 _ hg1 hu5)
        obtain ⟨f0, f1, f2, f3, f4, f5⟩ := EB.cells hEB3
        obtain ⟨M, hM⟩ : ∃ M, L ++ [a1, a2] ++ wideN 3 un = M := ⟨_, rfl⟩
        have hMl : M.length ≤ 30005 := by rw [← hM, List.length_append, List.length_append, wideN_len]; simp; omega
        rw [hM] at hrow3
        have HM := Lib.hid hM
        have Hb3 := Lib.hid hb3
        clear hM hb3 hg3 ho3 hrow2 Hbw2 hg1 hn2 hs2 hEBn hEB hEB3 hu5 hne0 d0' d1' d2' d3' d4' d5' hW1s
        go_wp2_with fail
        go_loopw [5, 50] (fun vi t wi => ∃ q : Nat, q ≤ 3 ∧ t = .int .i64 q ∧ wi.ownsRow (w.heap.size + 1) 5 1 vi (M ++ txtsN ([bx, ds, tx].take q)).length (u8s (M ++ txtsN ([bx, ds, tx].take q))) ∧ Hid (Below w.heap.size w wi) ∧ wr.heap.size + 1 ≤ wi.heap.size) (fun _ t _ => 3 - (intOf t).toNat)
        case atStart => exact ⟨0, by omega, rfl, by simpa [txtsN] using hrow3, Hb3, hs3⟩
        case round =>
          obtain ⟨q, hq, rfl, hri, HBi, hsi⟩ := hrel
          clear hrow3 f0 f1 f2 f3 f4 f5 Hb3 hs3
          have hT : (txtsN ([bx, ds, tx].take q)).length ≤ 3000 := by
            have h := txts_le bx ds tx q
            omega
          have hq4 : q = 0 ∨ q = 1 ∨ q = 2 ∨ q = 3 := by omega
          rcases hq4 with rfl | rfl | rfl | rfl
          · have hix : ∀ w : World, (Instr.index 65 (.agg #[.string bx, .string ds, .string tx]) (.int .i64 0)).run Tryd.prog w = .ok (.string bx) w := fun _ => by kernel_rfl
            go_wp2_with fail
            refine (wide_calls _ (M ++ txtsN ([bx, ds, tx].take 0)) bx.size 2 (w.heap.size + 1) _ (by omega) hri (by rw [List.length_append]; omega) (by omega) (by omega)).mono ?_
            rintro e w7 ⟨v7, rfl, hr7, hg7, ho7⟩
            have hb7 := HBi.out.trans ((below_grown hg7 hri (by omega)).mono (by omega))
            have hs7 := Nat.le_trans hsi hg7.size
            have hl7 : (M ++ txtsN ([bx, ds, tx].take 0) ++ wideN 2 bx.size).length ≤ 40000 := by rw [List.length_append, List.length_append, wideN_len]; omega
            clear hg7 ho7 hri
            go_wp2_with (at_builtin; refine Lib.wpList_append_own_string _ rfl _ _ 27 9 rfl (w.heap.size + 1) 5 i0 Tryd.underlying27 Tryd.underlying9 hi hz0 hz1 hz2 _ _ _ rfl hr7 bx rfl (by unfold maxLen; omega) (by omega) (by omega) ?_; intro v8 w8 hr8 hg8 _)
            have hb8 := hb7.trans ((below_grown hg8 hr7 (by omega)).mono (by omega))
            have hs8 := Nat.le_trans hs7 hg8.size
            have hr8' : w8.ownsRow (w.heap.size + 1) 5 1 v8 (M ++ txtsN [bx]).length (u8s (M ++ txtsN [bx])) := by
              have e1 : M ++ txtsN [bx] = (M ++ txtsN ([bx, ds, tx].take 0) ++ wideN 2 bx.size) ++ bs bx := by simp [txtsN, txtN]
              rw [e1, u8s_append, List.length_append (bs := bs bx), bs_len]
              exact hr8
            have Hb8 := Lib.hid hb8
            clear hb8 hb7 hg8 hr7 hr8 HBi
            go_roundw
            case rel => exact ⟨1, by omega, by go_num, hr8', Hb8, hs8⟩
            case measure => simp [intOf]
          · have hix : ∀ w : World, (Instr.index 65 (.agg #[.string bx, .string ds, .string tx]) (.int .i64 1)).run Tryd.prog w = .ok (.string ds) w := fun _ => by kernel_rfl
            go_wp2_with fail
            refine (wide_calls _ (M ++ txtsN ([bx, ds, tx].take 1)) ds.size 2 (w.heap.size + 1) _ (by omega) hri (by rw [List.length_append]; omega) (by omega) (by omega)).mono ?_
            rintro e w7 ⟨v7, rfl, hr7, hg7, ho7⟩
            have hb7 := HBi.out.trans ((below_grown hg7 hri (by omega)).mono (by omega))
            have hs7 := Nat.le_trans hsi hg7.size
            have hl7 : (M ++ txtsN ([bx, ds, tx].take 1) ++ wideN 2 ds.size).length ≤ 40000 := by rw [List.length_append, List.length_append, wideN_len]; omega
            clear hg7 ho7 hri
            go_wp2_with (at_builtin; refine Lib.wpList_append_own_string _ rfl _ _ 27 9 rfl (w.heap.size + 1) 5 i0 Tryd.underlying27 Tryd.underlying9 hi hz0 hz1 hz2 _ _ _ rfl hr7 ds rfl (by unfold maxLen; omega) (by omega) (by omega) ?_; intro v8 w8 hr8 hg8 _)
            have hb8 := hb7.trans ((below_grown hg8 hr7 (by omega)).mono (by omega))
            have hs8 := Nat.le_trans hs7 hg8.size
            have hr8' : w8.ownsRow (w.heap.size + 1) 5 1 v8 (M ++ txtsN [bx, ds]).length (u8s (M ++ txtsN [bx, ds])) := by
              have e1 : M ++ txtsN [bx, ds] = (M ++ txtsN ([bx, ds, tx].take 1) ++ wideN 2 ds.size) ++ bs ds := by simp [txtsN, txtN]
              rw [e1, u8s_append, List.length_append (bs := bs ds), bs_len]
              exact hr8
            have Hb8 := Lib.hid hb8
            clear hb8 hb7 hg8 hr7 hr8 HBi
            go_roundw
            case rel => exact ⟨2, by omega, by go_num, hr8', Hb8, hs8⟩
            case measure => simp [intOf]
          · have hix : ∀ w : World, (Instr.index 65 (.agg #[.string bx, .string ds, .string tx]) (.int .i64 2)).run Tryd.prog w = .ok (.string tx) w := fun _ => by kernel_rfl
            go_wp2_with fail
            refine (wide_calls _ (M ++ txtsN ([bx, ds, tx].take 2)) tx.size 2 (w.heap.size + 1) _ (by omega) hri (by rw [List.length_append]; omega) (by omega) (by omega)).mono ?_
            rintro e w7 ⟨v7, rfl, hr7, hg7, ho7⟩
            have hb7 := HBi.out.trans ((below_grown hg7 hri (by omega)).mono (by omega))
            have hs7 := Nat.le_trans hsi hg7.size
            have hl7 : (M ++ txtsN ([bx, ds, tx].take 2) ++ wideN 2 tx.size).length ≤ 40000 := by rw [List.length_append, List.length_append, wideN_len]; omega
            clear hg7 ho7 hri
            go_wp2_with (at_builtin; refine Lib.wpList_append_own_string _ rfl _ _ 27 9 rfl (w.heap.size + 1) 5 i0 Tryd.underlying27 Tryd.underlying9 hi hz0 hz1 hz2 _ _ _ rfl hr7 tx rfl (by unfold maxLen; omega) (by omega) (by omega) ?_; intro v8 w8 hr8 hg8 _)
            have hb8 := hb7.trans ((below_grown hg8 hr7 (by omega)).mono (by omega))
            have hs8 := Nat.le_trans hs7 hg8.size
            have hr8' : w8.ownsRow (w.heap.size + 1) 5 1 v8 (M ++ txtsN [bx, ds, tx]).length (u8s (M ++ txtsN [bx, ds, tx])) := by
              have e1 : M ++ txtsN [bx, ds, tx] = (M ++ txtsN ([bx, ds, tx].take 2) ++ wideN 2 tx.size) ++ bs tx := by simp [txtsN, txtN]
              rw [e1, u8s_append, List.length_append (bs := bs tx), bs_len]
              exact hr8
            have Hb8 := Lib.hid hb8
            clear hb8 hb7 hg8 hr7 hr8 HBi
            go_roundw
            case rel => exact ⟨3, by omega, by go_num, hr8', Hb8, hs8⟩
            case measure => simp [intOf]
          · go_wp2
            go_roundw
            case rel =>
              have hk2 := Hbk.out
              rw [show encN ⟨kd, bx, (un : Int), fl, ds, tx⟩ = [UInt8.ofNat kd.toNat, UInt8.ofNat fl.toNat] ++ wideN 3 un ++ txtsN [bx, ds, tx] from rfl, HA1.out, HA2.out, ← List.append_assoc, ← List.append_assoc, HM.out] at hk2
              exact ⟨k + 1, by omega, by go_num, by rw [hk2]; exact hri, HBi, by omega⟩
            case measure => simp [intOf]; omega
      · obtain rfl : k = es.length := by omega
        have hbe := batK_full user es
        rw [hbe] at hrow
        go_wp2
        go_ret2
        rw [Hpost.out]
        exact ⟨_, rfl, ownsRow_base (Nat.le_succ _) hrow, HB.out⟩
  · have hpost : ∀ e w', e = .returned (.tuple #[.slice none 0 0, .int .i64 (checkB user es)]) → Below w.heap.size w w' → EncOk w user es e w' := fun e w' h1 h2 => by unfold EncOk; rw [if_neg hz]; exact ⟨h1, h2⟩
    have Hp := Lib.hid hpost
    have hne : (checkB user es != 0) = true := by simpa using hz
    clear hpost hz
    generalize checkB user es = z at *
    go_wp2
    go_ret2
    exact Hp.out _ _ (by rfl) hb2
end Go.Proofs.YtpncahklapfoaaaDoor
