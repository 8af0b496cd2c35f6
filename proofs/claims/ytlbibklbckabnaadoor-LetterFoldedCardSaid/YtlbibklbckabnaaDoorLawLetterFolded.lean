/- A value may go on in lines that begin with a blank: for every three texts. -/
import Derived.Test.YtlbibklbckabnaaDoorLetVal
namespace Go.Proofs.YtlbibklbckabnaaDoor
open Go.RowKit
set_option linter.unusedVariables false

theorem blk2_eq (c : UInt8) : blk2 c = blkB c := by
  by_cases h1 : c = 32
  · subst h1; rfl
  · by_cases h2 : c = 9
    · subst h2; rfl
    · simp [blk2, blkB, h1, h2]
theorem wordL_plain (l : List UInt8) : ∀ c ∈ wordL l, c ≠ 58 ∧ c ≠ 10 ∧ c ≠ 13 ∧ blk2 c = false := by
  intro c hc
  obtain ⟨h1, h2, h3, h4⟩ := nameB_plain ((nameL_mem (wordL_name l)).1 c hc)
  exact ⟨h1, h2, h3, by rw [blk2_eq]; exact h4⟩
theorem parse_goon (k n : Nat) (acc : List Fld) (line r : List UInt8) (h1 : crlfL line = none) (h2 : blkB (line.headD 0) = true) (h3 : acc ≠ []) (h4 : line ≠ []) :
    parseL (k + 1) n acc (line ++ 13 :: 10 :: r) = parseL k (n + 1) (goOn acc line) r := by
  rw [parseL, crlfL_at _ _ h1]
  dsimp only
  rw [if_neg h4, if_pos ⟨h2, h3⟩]
theorem colonL_none' : ∀ l : List UInt8, (∀ c ∈ l, c ≠ 58) → colonL l = none
  | [], _ => rfl
  | c :: l, h => by
    rw [colonL, if_neg (h c List.mem_cons_self), colonL_none' l (fun d hd => h d (List.mem_cons_of_mem _ hd))]
    rfl
theorem trim_tail {l : List UInt8} (h : noBlk l) (h0 : l ≠ []) : trimL (l ++ [32]) = l := by
  rcases h with h | ⟨⟨c, t, h1, h2⟩, d, u, h3, h4⟩
  · exact absurd h h0
  · rw [trimL_def, List.reverse_append, List.reverse_singleton, List.singleton_append, List.dropWhile_cons_of_pos (by decide), h3, List.dropWhile_cons_of_neg (by rw [h4]; decide), ← h3, List.reverse_reverse, h1, List.dropWhile_cons_of_neg (by rw [h2]; decide)]
/-- The folded value. -/
def foldV (x y : List UInt8) : List UInt8 := x ++ 32 :: (y ++ 9 :: x)
theorem foldV_law (a b : List UInt8) : noBlk (foldV (wordL a) (wordL b)) ∧ foldV (wordL a) (wordL b) ≠ [] ∧ crlfL (foldV (wordL a) (wordL b)) = none := by
  have ha := wordL_plain a
  have hb := wordL_plain b
  have hne := wordL_ne a
  refine ⟨.inr ⟨?_, ?_⟩, ?_, ?_⟩
  · cases hw : wordL a with
    | nil => exact absurd hw hne
    | cons c t => exact ⟨c, _, rfl, (ha c (by rw [hw]; exact List.mem_cons_self)).2.2.2⟩
  · have hr : (wordL a).reverse ≠ [] := fun e => hne (List.reverse_eq_nil_iff.1 e)
    cases hw : (wordL a).reverse with
    | nil => exact absurd hw hr
    | cons c t =>
      have hm : c ∈ wordL a := List.mem_reverse.1 (by rw [hw]; exact List.mem_cons_self)
      refine ⟨c, t ++ (32 :: (wordL b ++ [9])).reverse ++ (wordL a).reverse, ?_, (ha c hm).2.2.2⟩
      have e : foldV (wordL a) (wordL b) = wordL a ++ (32 :: (wordL b ++ [9])) ++ wordL a := by simp [foldV]
      rw [e, List.reverse_append, List.reverse_append]
      conv => lhs; lhs; rw [hw]
      simp
  · unfold foldV
    cases hw : wordL a with
    | nil => exact absurd hw hne
    | cons c t => simp
  · refine crlfL_no _ (fun c hc => ?_)
    unfold foldV at hc
    rcases List.mem_append.1 hc with hc | hc
    · exact (ha c hc).2.1
    · rcases List.mem_cons.1 hc with rfl | hc
      · decide
      · rcases List.mem_append.1 hc with hc | hc
        · exact (hb c hc).2.1
        · rcases List.mem_cons.1 hc with rfl | hc
          · decide
          · exact (ha c hc).2.1
/-- The folded text is parsed. -/
theorem folded_parse (nm x y z : ByteArray) (n a b : List UInt8) (hn : bs nm = wordL n) (hx : bs x = wordL a) (hy : bs y = wordL b) (hz : bs z = foldV (wordL a) (wordL b)) (fuel : Nat) :
    parseL (fuel + 4) 0 [] (bs (nm ++ ⟨#[58]⟩ ++ x ++ ⟨#[13, 10, 32]⟩ ++ y ++ ⟨#[13, 10, 9]⟩ ++ x ++ ⟨#[32, 13, 10, 13, 10]⟩)) = .ok [⟨nm, z⟩] [] := by
  have ha := wordL_plain a
  have hb := wordL_plain b
  have hc := wordL_plain n
  obtain ⟨v1, v2, _⟩ := foldV_law a b
  have e : bs (nm ++ ⟨#[58]⟩ ++ x ++ ⟨#[13, 10, 32]⟩ ++ y ++ ⟨#[13, 10, 9]⟩ ++ x ++ ⟨#[32, 13, 10, 13, 10]⟩) = bs nm ++ 58 :: (bs x ++ 13 :: 10 :: ((32 :: bs y) ++ 13 :: 10 :: ((9 :: (bs x ++ [32])) ++ 13 :: 10 :: 13 :: 10 :: []))) := by
    simp only [bs_append]
    show bs nm ++ [58] ++ bs x ++ [13, 10, 32] ++ bs y ++ [13, 10, 9] ++ bs x ++ [32, 13, 10, 13, 10] = _
    simp
  have p1 := parse_line (fuel + 3) 0 [] nm (bs x) ((32 :: bs y) ++ 13 :: 10 :: ((9 :: (bs x ++ [32])) ++ 13 :: 10 :: 13 :: 10 :: [])) (by rw [hn]; exact wordL_name n) (crlfL_no _ (fun c h => by
    rcases List.mem_append.1 h with h | h
    · rw [hn] at h; exact (hc c h).2.1
    · rcases List.mem_cons.1 h with rfl | h
      · decide
      · rw [hx] at h; exact (ha c h).2.1)) (by decide)
  rw [e, p1, List.nil_append]
  have p2 := parse_goon (fuel + 2) 1 [⟨nm, mkS (bs x)⟩] (32 :: bs y) ((9 :: (bs x ++ [32])) ++ 13 :: 10 :: 13 :: 10 :: []) (crlfL_no _ (fun c h => by
    rcases List.mem_cons.1 h with rfl | h
    · decide
    · rw [hy] at h; exact (hb c h).2.1)) (show blkB 32 = true by decide) (by simp) (by simp)
  rw [p2]
  have p3 := parse_goon (fuel + 1) 2 (goOn [⟨nm, mkS (bs x)⟩] (32 :: bs y)) (9 :: (bs x ++ [32])) (13 :: 10 :: []) (crlfL_no _ (fun c h => by
    rcases List.mem_cons.1 h with rfl | h
    · decide
    · rcases List.mem_append.1 h with h | h
      · rw [hx] at h; exact (ha c h).2.1
      · simp only [List.mem_cons, List.not_mem_nil, or_false] at h
        subst h; decide)) (show blkB 9 = true by decide) (by rw [show ([⟨nm, mkS (bs x)⟩] : List Fld) = [] ++ [⟨nm, mkS (bs x)⟩] from rfl, goOn_snoc]; simp) (by simp)
  rw [p3]
  rw [show ([⟨nm, mkS (bs x)⟩] : List Fld) = [] ++ [⟨nm, mkS (bs x)⟩] from rfl, goOn_snoc, goOn_snoc]
  have hv : bs (mkS (bs x) ++ mkS (32 :: bs y) ++ mkS (9 :: (bs x ++ [32]))) = foldV (wordL a) (wordL b) ++ [32] := by
    rw [bs_append, bs_append, bs_mkS, bs_mkS, bs_mkS, hx, hy]
    simp [foldV]
  show PRes.ok ([(⟨nm, mkS (bs x) ++ mkS (32 :: bs y) ++ mkS (9 :: (bs x ++ [32]))⟩ : Fld)].map trimF) [] = _
  rw [List.map_cons, List.map_nil]
  have ht : trimF ⟨nm, mkS (bs x) ++ mkS (32 :: bs y) ++ mkS (9 :: (bs x ++ [32]))⟩ = ⟨nm, z⟩ := by
    unfold trimF
    dsimp only
    rw [hv, trim_tail v1 v2, ← hz, mkS_bs]
  rw [ht]
theorem blank_parse (x : ByteArray) (a : List UInt8) (hx : bs x = wordL a) (fuel : Nat) : parseL (fuel + 1) 0 [] (bs ((⟨#[32]⟩ : ByteArray) ++ x ++ ⟨#[13, 10, 13, 10]⟩)) = .bad 0 3 := by
  have ha := wordL_plain a
  have e : bs ((⟨#[32]⟩ : ByteArray) ++ x ++ ⟨#[13, 10, 13, 10]⟩) = (32 :: bs x) ++ 13 :: 10 :: 13 :: 10 :: [] := by
    simp only [bs_append]
    show [32] ++ bs x ++ [13, 10, 13, 10] = _
    simp
  have hcr : crlfL (32 :: bs x) = none := crlfL_no _ (fun c h => by
    rcases List.mem_cons.1 h with rfl | h
    · decide
    · rw [hx] at h; exact (ha c h).2.1)
  have hco : colonL (32 :: bs x) = none := colonL_none' _ (fun c h => by
    rcases List.mem_cons.1 h with rfl | h
    · decide
    · rw [hx] at h; exact (ha c h).1)
  rw [e, parseL, crlfL_at _ _ hcr]
  dsimp only
  rw [if_neg (by simp), if_neg (by simp), hco]
theorem folded_may (nm z : ByteArray) (n a b : List UInt8) (hn : bs nm = wordL n) (hz : bs z = foldV (wordL a) (wordL b)) : MayF ⟨nm, z⟩ := by
  obtain ⟨v1, v2, v3⟩ := foldV_law a b
  exact ⟨by rw [hn]; exact wordL_name n, by rw [hz]; exact v3, by rw [hz]; exact (trim_noBlk v1).1⟩
theorem pick_same (nm z : ByteArray) : pickV nm [⟨nm, z⟩] = [z] := by
  unfold pickV
  rw [List.filter_cons_of_pos (by unfold fitsN; exact beq_self_eq_true _)]
  rfl
theorem new_strRow (w : World) (z : ByteArray) (T : TypeId) (hz : z.size ≤ 100000) {b : Nat} (hb : w.heap.size = b) : Rk.str.Row (w.alloc (.cells #[.string z] T)) (some ⟨b, 0, none⟩) [z] := by
  subst hb
  refine .inr ⟨w.heap.size, 0, rfl, fun j hj => ?_⟩
  have h0 : j = 0 := by simpa using hj
  subst h0
  refine ⟨[.string z], ⟨rfl, by show z.size ≤ maxLen; unfold maxLen; omega⟩, fun i u hu => ?_⟩
  match i, hu with
  | 0, hu =>
    simp at hu
    subst hu
    show (w.alloc (.cells #[.string z] T)).cell? ⟨w.heap.size, 0 + (0 * 1 + 0), none⟩ = _
    rw [World.cell?_alloc_at _ _ _ _ rfl]
    rfl
  | i + 1, hu => simp at hu
set_option maxRecDepth 100000 in
set_option maxHeartbeats 8000000 in
theorem letterFolded_walk (n a b : ByteArray) (m : Int) (w : World) (hns : n.size ≤ 9223372036854775807) (has : a.size ≤ 9223372036854775807) (hbs : b.size ≤ 9223372036854775807) (hm : w.cell? ⟨0, 0, none⟩ = some (.int .i64 m)) :
    Calls Tryd.prog 14 #[.string n, .string a, .string b] w fun e w' => e = .returned (.bool true) ∧ Below w.heap.size w w' := by
  go_enter Tryd.func14, Tryd.ntmps14
  go_wp2_with fail
  refine (word_calls n hns w).mono ?_
  rintro e w1 ⟨rfl, hb1⟩
  have hn := mkS_size (wordL (bs n))
  have hnl := wordL_len (bs n)
  have hnb := bs_mkS (wordL (bs n))
  generalize mkS (wordL (bs n)) = nm at *
  have Hnb := Lib.hid hnb
  have hnz : nm.size ≤ 8 := by omega
  clear hn hnl hnb
  go_wp2_with fail
  refine (word_calls a has w1).mono ?_
  rintro e w2 ⟨rfl, hb2⟩
  have hx := mkS_size (wordL (bs a))
  have hxl := wordL_len (bs a)
  have hxb := bs_mkS (wordL (bs a))
  generalize mkS (wordL (bs a)) = x at *
  have Hxb := Lib.hid hxb
  have hxz : x.size ≤ 8 := by omega
  clear hx hxl hxb
  go_wp2_with fail
  refine (word_calls b hbs w2).mono ?_
  rintro e w3 ⟨rfl, hb3⟩
  have hy := mkS_size (wordL (bs b))
  have hyl := wordL_len (bs b)
  have hyb := bs_mkS (wordL (bs b))
  generalize mkS (wordL (bs b)) = y at *
  have Hyb := Lib.hid hyb
  have hyz : y.size ≤ 8 := by omega
  clear hy hyl hyb
  have hbw2 := hb1.trans (hb2.mono hb1.size)
  have hbw3 := hbw2.trans (hb3.mono hbw2.size)
  have hm3 := cell_later hbw3 hm
  have hz3 := hbw3.size
  clear hb1 hb2 hb3 hbw2 hm
  have hzb : bs (x ++ ⟨#[32]⟩ ++ y ++ ⟨#[9]⟩ ++ x) = foldV (wordL (bs a)) (wordL (bs b)) := by
    simp only [bs_append, Hxb.out, Hyb.out]
    show _ ++ [32] ++ _ ++ [9] ++ _ = _
    simp [foldV]
  have hzz : (x ++ ⟨#[32]⟩ ++ y ++ ⟨#[9]⟩ ++ x).size ≤ 30 := by
    simp only [ByteArray.size_append]
    show x.size + 1 + y.size + 1 + x.size ≤ 30
    omega
  have hs1 : (nm ++ ⟨#[58]⟩ ++ x ++ ⟨#[13, 10, 32]⟩ ++ y ++ ⟨#[13, 10, 9]⟩ ++ x ++ ⟨#[32, 13, 10, 13, 10]⟩).size ≤ 100 ∧ 4 ≤ (nm ++ ⟨#[58]⟩ ++ x ++ ⟨#[13, 10, 32]⟩ ++ y ++ ⟨#[13, 10, 9]⟩ ++ x ++ ⟨#[32, 13, 10, 13, 10]⟩).size := by
    simp only [ByteArray.size_append]
    show nm.size + 1 + x.size + 3 + y.size + 3 + x.size + 5 ≤ 100 ∧ 4 ≤ nm.size + 1 + x.size + 3 + y.size + 3 + x.size + 5
    omega
  have hpa := parse_calls (nm ++ ⟨#[58]⟩ ++ x ++ ⟨#[13, 10, 32]⟩ ++ y ++ ⟨#[13, 10, 9]⟩ ++ x ++ ⟨#[32, 13, 10, 13, 10]⟩) m w3 (by omega) hm3 (.ok [⟨nm, x ++ ⟨#[32]⟩ ++ y ++ ⟨#[9]⟩ ++ x⟩] []) (by
    obtain ⟨q, hq⟩ : ∃ q, (nm ++ ⟨#[58]⟩ ++ x ++ ⟨#[13, 10, 32]⟩ ++ y ++ ⟨#[13, 10, 9]⟩ ++ x ++ ⟨#[32, 13, 10, 13, 10]⟩).size + 1 = q + 4 := ⟨_, (Nat.sub_add_cancel (by omega)).symm⟩
    rw [hq]
    exact folded_parse nm x y _ (bs n) (bs a) (bs b) Hnb.out Hxb.out Hyb.out hzb q)
  have HPa := Lib.hid hpa
  have hmay := folded_may nm _ (bs n) (bs a) (bs b) Hnb.out hzb
  have Hmay := Lib.hid hmay
  clear hpa hmay hzb hs1
  go_wp2_with fail
  refine HPa.out.mono ?_
  rintro e w4 ⟨hb4, v4, rfl, hrow4⟩
  obtain ⟨A4, c4, rfl, hlin4⟩ := ownsRow_lin (n := 1) hrow4 rfl (by
    intro f hf
    simp only [List.mem_cons, List.not_mem_nil, or_false] at hf
    subst hf
    exact ⟨by show nm.size ≤ _; omega, by show (x ++ ⟨#[32]⟩ ++ y ++ ⟨#[9]⟩ ++ x).size ≤ _; omega⟩)
  have hbw4 := hbw3.trans (hb4.mono hz3)
  have hz4 := hbw4.size
  have hb5 : Below w4.heap.size w4 (w4.alloc (.cells #[.slice A4 1 c4, .string (mkS [])] 45)) := (Below.refl _ w4).alloc (Nat.le_refl _) _
  have hlin5 := hlin4.later hb5
  have hm5 := cell_later hb5 (cell_later hb4 hm3)
  have hbw5 := hbw4.trans (hb5.mono hz4)
  have hz5 := hbw5.size
  have hva := values_calls [⟨nm, x ++ ⟨#[32]⟩ ++ y ++ ⟨#[9]⟩ ++ x⟩] A4 c4 (mkS []) nm m _ hlin5 (by
    intro f hf
    simp only [List.mem_cons, List.not_mem_nil, or_false] at hf
    subst hf
    exact Hmay.out) (by simp) (by
    rw [showL_len]
    unfold fldsL
    rw [List.flatMap_cons, List.flatMap_nil, List.append_nil, fldL_len, bs_mkS]
    show nm.size + (x ++ ⟨#[32]⟩ ++ y ++ ⟨#[9]⟩ ++ x).size + 4 + 2 + 0 ≤ 2000
    omega) (by omega) hm5
  rw [pick_same] at hva
  have HVa := Lib.hid hva
  clear HPa hb4 hrow4 hlin4 hm3 hbw3 hb5 hlin5 hbw4 hva Hmay
  go_wp2_with fail
  generalize w4.alloc (.cells #[.slice A4 1 c4, .string (mkS [])] 45) = w5 at *
  refine HVa.out.mono ?_
  rintro e w6 ⟨v6, rfl, hrow6, hb6⟩
  obtain ⟨A6, c6, rfl, hst6⟩ := row_strs (n := 1) hrow6 rfl (by
    intro s hs
    simp only [List.mem_cons, List.not_mem_nil, or_false] at hs
    subst hs
    omega)
  have hm6 := cell_later hb6 hm5
  have hbw6 := hbw5.trans (hb6.mono hz5)
  have hz6 := hbw6.size
  have hs2 : ((⟨#[32]⟩ : ByteArray) ++ x ++ ⟨#[13, 10, 13, 10]⟩).size ≤ 100 := by
    simp only [ByteArray.size_append]
    show 1 + x.size + 4 ≤ 100
    omega
  have hpb := parse_calls ((⟨#[32]⟩ : ByteArray) ++ x ++ ⟨#[13, 10, 13, 10]⟩) m w6 (by omega) hm6 (.bad 0 3) (blank_parse x (bs a) Hxb.out _)
  have HPb := Lib.hid hpb
  clear HVa hrow6 hb6 hm5 hbw5 hs2 hpb
  go_wp2_with fail
  refine HPb.out.mono ?_
  rintro e w7 ⟨hb7, he⟩
  dsimp only at he
  subst he
  have hst7 := hst6.later hb7
  have hbw7 := hbw6.trans (hb7.mono hz6)
  have hz7 := hbw7.size
  have hb8 : Below w7.heap.size w7 (w7.alloc (.cells #[.slice none 0 0, .string ⟨#[]⟩] 45)) := (Below.refl _ w7).alloc (Nat.le_refl _) _
  have hst8 := hst7.later hb8
  have hbw8 := hbw7.trans (hb8.mono hz7)
  have hz8 := hbw8.size
  have Hst8 := Lib.hid hst8
  have Hbw8 := Lib.hid hbw8
  clear HPb hb7 hst6 hst7 hb8 hbw7 hbw8 hm6 hbw6 hst8
  go_wp2_with fail
  have hs9 : (w7.alloc (.cells #[.slice none 0 0, .string ⟨#[]⟩] 45)).heap.size = w7.heap.size + 1 := by simp
  generalize w7.alloc (.cells #[.slice none 0 0, .string ⟨#[]⟩] 45) = w8 at *
  have hnew := new_strRow w8 (x ++ ⟨#[32]⟩ ++ y ++ ⟨#[9]⟩ ++ x) 9 (by omega) hs9
  have hb9 : Below w8.heap.size w8 (w8.alloc (.cells #[.string (x ++ ⟨#[32]⟩ ++ y ++ ⟨#[9]⟩ ++ x)] 9)) := (Below.refl _ w8).alloc (Nat.le_refl _) _
  have hst9 := Hst8.out.later hb9
  have hbw9 := Hbw8.out.trans (hb9.mono hz8)
  refine (same_texts [x ++ ⟨#[32]⟩ ++ y ++ ⟨#[9]⟩ ++ x] A6 _ c6 1 _ hst9 hnew (by simp)).mono ?_
  rintro e w10 ⟨rfl, hb10⟩
  have Hb10 := Lib.hid (hbw9.trans (hb10.mono hbw9.size))
  clear hb10 hbw9 hst9 hb9 hnew hs9
  go_wp2
  go_ret
  exact ⟨rfl, Hb10.out⟩
end Go.Proofs.YtlbibklbckabnaaDoor
