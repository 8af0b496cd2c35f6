/- Plain words and memory for script's commands whose parts may be. -/
import Derived.Test.YtgmnoemkdigafaaDoorScrTestP
namespace Go.Proofs.YtgmnoemkdigafaaDoor
open Go.RowKit
set_option linter.unusedVariables false

mutual
/-- A command whose parts may be, but for how deep it is. -/
def okC : Cmd → Prop
  | .mk k tx t th el => (k = 2 ∧ tx = [] ∧ okT t ∧ okCs th ∧ okCs el) ∨ (1 ≤ k ∧ k ≤ 10 ∧ k ≠ 2 ∧ formC k tx.length = true ∧ t = zeroT ∧ th = [] ∧ el = [])
def okCs : List Cmd → Prop
  | [] => True
  | c :: l => okC c ∧ okCs l
end
theorem okCs_mem : ∀ (l : List Cmd) (t : Cmd), okCs l → t ∈ l → okC t
  | [], t, h, ht => by cases ht
  | s :: l, t, h, ht => by
    unfold okCs at h
    rcases List.mem_cons.1 ht with rfl | ht
    · exact h.1
    · exact okCs_mem l t h.2 ht
theorem okCs_of : ∀ (l : List Cmd), (∀ c ∈ l, okC c) → okCs l
  | [], _ => by unfold okCs; trivial
  | s :: l, h => by
    unfold okCs
    exact ⟨h s (by simp), okCs_of l fun c hc => h c (by simp [hc])⟩
theorem chkC_if_ok (t : Tst) (th el : List Cmd) (d : Int) : chkC (.mk 2 [] t th el) d = if 6 < d then 1 else if chkT t 1 ≠ 0 then chkT t 1 else if chkCs th (d + 1) ≠ 0 then chkCs th (d + 1) else chkCs el (if lone el = true then d else d + 1) := by
  rw [chkC, if_neg (by decide)]
  by_cases h : 6 < d
  · rw [if_pos h, if_pos h]
  · rw [if_neg h, if_neg h, if_pos rfl, if_neg (by simp)]
theorem chkC_other {k : Int} {tx : List ByteArray} (h1 : 1 ≤ k) (h2 : k ≤ 10) (h3 : k ≠ 2) (hf : formC k tx.length = true) (d : Int) : chkC (.mk k tx zeroT [] []) d = if 6 < d then 1 else 0 := by
  rw [chkC, if_neg (by omega)]
  by_cases h : 6 < d
  · rw [if_pos h, if_pos h]
  · rw [if_neg h, if_neg h, if_neg h3, if_pos ⟨hf, rfl, rfl⟩]
theorem chkCs_drop (ts : List Cmd) (d : Int) : ∀ j : Nat, (∀ i (t : Cmd), i < j → ts[i]? = some t → chkC t d = 0) → chkCs ts d = chkCs (ts.drop j) d
  | 0, _ => by rw [List.drop_zero]
  | j + 1, h => by
    rw [chkCs_drop ts d j (fun i t hi => h i t (by omega))]
    by_cases hj : j < ts.length
    · rw [List.drop_eq_getElem_cons hj]
      have h0 := h j ts[j] (by omega) (by simp [hj])
      rw [chkCs, if_neg (by rw [h0]; simp)]
    · rw [List.drop_eq_nil_of_le (by omega), List.drop_eq_nil_of_le (by omega)]
theorem cmdsTk_append : ∀ (a b : List Cmd), cmdsTk (a ++ b) = cmdsTk a ++ cmdsTk b
  | [], b => by rw [List.nil_append, cmdsTk, List.nil_append]
  | s :: a, b => by
    rw [List.cons_append, cmdsTk, cmdsTk_append a b, cmdsTk, List.append_assoc]
theorem cmdsTk_single (c : Cmd) : cmdsTk [c] = cmdTk c := by rw [cmdsTk, cmdsTk, List.append_nil]
theorem cmdsTk_take_succ {l : List Cmd} {j : Nat} {c : Cmd} (h : l[j]? = some c) : cmdsTk (l.take (j + 1)) = cmdsTk (l.take j) ++ cmdTk c := by
  rw [List.take_add_one, h, Option.toList_some, cmdsTk_append, cmdsTk_single]
theorem cmdsTk_take_le (l : List Cmd) (j : Nat) : (cmdsTk (l.take j)).length ≤ (cmdsTk l).length := by
  have h : cmdsTk l = cmdsTk (l.take j) ++ cmdsTk (l.drop j) := by rw [← cmdsTk_append, List.take_append_drop]
  rw [h, List.length_append]; omega
theorem elseTk_nil : elseTk [] = [] := by rw [elseTk]
theorem elseTk_one (c : Cmd) (h : c.kind = 2) : elseTk [c] = wordTk (mkS [101, 108, 115, 105, 102]) :: (cmdTk c).tail := by rw [elseTk, if_pos ⟨rfl, h⟩]
theorem elseTk_many {l : List Cmd} (hl : l ≠ []) (h : lone l = false) : elseTk l = wordTk (mkS [101, 108, 115, 101]) :: (markTk 123 :: (cmdsTk l ++ [markTk 125])) := by
  match l, hl with
  | c :: r, _ =>
    rw [elseTk, if_neg, cmdsTk]
    rintro ⟨rfl, hk⟩
    unfold lone at h
    simp [hk] at h
theorem lone_true {l : List Cmd} (h : lone l = true) : ∃ c, l = [c] ∧ c.kind = 2 := by
  match l with
  | [] => simp [lone] at h
  | [c] => exact ⟨c, rfl, by simpa [lone] using h⟩
  | a :: b :: r => simp [lone] at h
/-- A command's twelve cells, as they are read. -/
theorem cmdV_cells {w : World} {k : Int} {tx : List ByteArray} {t : Tst} {th el : List Cmd} {vs : List Value} (h : CmdV w (.mk k tx t th el) vs) :
    ∃ (Ax : Option Addr) (cx : Nat) (k2 m p lm : Int) (o : Bool) (An Ak At : Option Addr) (nn cn nk ck nt ct : Nat) (Ah : Option Addr) (ch : Nat) (Ae : Option Addr) (ce : Nat),
      vs = [.int .i64 k, .slice Ax tx.length cx, .int .i64 k2, .int .i64 m, .int .i64 p, .slice An nn cn, .slice Ak nk ck, .bool o, .int .i64 lm, .slice At nt ct, .slice Ah th.length ch, .slice Ae el.length ce] ∧
      TxAt w Ax tx ∧ TestV w t [.int .i64 k2, .int .i64 m, .int .i64 p, .slice An nn cn, .slice Ak nk ck, .bool o, .int .i64 lm, .slice At nt ct] ∧ CmdsAt w th Ah ∧ CmdsAt w el Ae ∧ (tx.length ≤ cx ∧ th.length ≤ ch ∧ el.length ≤ ce ∧ tx.length ≤ 1000000 ∧ th.length ≤ 1000000 ∧ el.length ≤ 1000000) := by
  unfold CmdV at h
  obtain ⟨Ax, cx, tv, Ah, ch, Ae, ce, rfl, h1, h2, h3, h4, h5⟩ := h
  have h2' := h2
  obtain ⟨k2, m, p, ns, ks, o, lm, ss⟩ := t
  unfold TestV at h2'
  obtain ⟨An, cn, Ak, ck, At, ct, rfl, _⟩ := h2'
  exact ⟨Ax, cx, k2, m, p, lm, o, An, Ak, At, _, cn, _, ck, _, ct, Ah, ch, Ae, ce, rfl, h1, h2, h3, h4, h5⟩
/-- What a loop over commands leans on, round by round. -/
theorem cmdsAt_round {w w' : World} {cs : List Cmd} {A : Option Addr} {j : Nat} (hb : Below w.heap.size w w') (h : CmdsAt w cs A) (hj : j < cs.length) :
    ∃ (b off : Nat) (s : Cmd) (k : Int) (Ax : Option Addr) (nx cx : Nat) (k2 m p lm : Int) (o : Bool) (An Ak At : Option Addr) (nn cn nk ck nt ct : Nat) (Ah : Option Addr) (nh ch : Nat) (Ae : Option Addr) (ne ce : Nat),
      A = some ⟨b, off, none⟩ ∧ s ∈ cs ∧ cs[j]? = some s ∧ cs.drop j = s :: cs.drop (j + 1) ∧ s.kind = k ∧
      CmdV w s [.int .i64 k, .slice Ax nx cx, .int .i64 k2, .int .i64 m, .int .i64 p, .slice An nn cn, .slice Ak nk ck, .bool o, .int .i64 lm, .slice At nt ct, .slice Ah nh ch, .slice Ae ne ce] ∧
      w'.cell? ⟨b, off + j * 12, none⟩ = some (.int .i64 k) ∧ w'.cell? ⟨b, off + j * 12 + 1, none⟩ = some (.slice Ax nx cx) ∧ w'.cell? ⟨b, off + j * 12 + 2, none⟩ = some (.int .i64 k2) ∧ w'.cell? ⟨b, off + j * 12 + 3, none⟩ = some (.int .i64 m) ∧ w'.cell? ⟨b, off + j * 12 + 4, none⟩ = some (.int .i64 p) ∧ w'.cell? ⟨b, off + j * 12 + 5, none⟩ = some (.slice An nn cn) ∧ w'.cell? ⟨b, off + j * 12 + 6, none⟩ = some (.slice Ak nk ck) ∧ w'.cell? ⟨b, off + j * 12 + 7, none⟩ = some (.bool o) ∧ w'.cell? ⟨b, off + j * 12 + 8, none⟩ = some (.int .i64 lm) ∧ w'.cell? ⟨b, off + j * 12 + 9, none⟩ = some (.slice At nt ct) ∧ w'.cell? ⟨b, off + j * 12 + 10, none⟩ = some (.slice Ah nh ch) ∧ w'.cell? ⟨b, off + j * 12 + 11, none⟩ = some (.slice Ae ne ce) := by
  obtain ⟨b, off, rfl⟩ := cmdsAt_ptr h (fun e => by rw [e] at hj; simp at hj)
  obtain ⟨s, hs⟩ : ∃ s, cs[j]? = some s := ⟨cs[j], by simp [hj]⟩
  obtain ⟨us, hcs, huv⟩ := cmdsAt_get cs b off j s h hs
  have huv2 := huv
  obtain ⟨k, tx, t, th, el⟩ := s
  obtain ⟨Ax, cx, k2, m, p, lm, o, An, Ak, At, nn, cn, nk, ck, nt, ct, Ah, ch, Ae, ce, rfl, _⟩ := cmdV_cells huv2
  have hcl := fun i v hi => cell_later hb (hcs i v hi)
  exact ⟨b, off, _, k, Ax, _, cx, k2, m, p, lm, o, An, Ak, At, nn, cn, nk, ck, nt, ct, Ah, _, ch, Ae, _, ce, rfl, List.mem_of_getElem? hs, hs, drop_get cs j _ hs, rfl, huv, hcl 0 _ rfl, hcl 1 _ rfl, hcl 2 _ rfl, hcl 3 _ rfl, hcl 4 _ rfl, hcl 5 _ rfl, hcl 6 _ rfl, hcl 7 _ rfl, hcl 8 _ rfl, hcl 9 _ rfl, hcl 10 _ rfl, hcl 11 _ rfl⟩
/-- The cells of a test of nothing. -/
theorem zeroT_cells {w : World} {k m p lm : Int} {o : Bool} {An Ak At : Option Addr} {nn cn nk ck nt ct : Nat} (h : TestV w zeroT [.int .i64 k, .int .i64 m, .int .i64 p, .slice An nn cn, .slice Ak nk ck, .bool o, .int .i64 lm, .slice At nt ct]) :
    k = 0 ∧ m = 0 ∧ p = 0 ∧ nn = 0 ∧ nk = 0 ∧ o = false ∧ lm = 0 ∧ nt = 0 := by
  unfold zeroT TestV at h
  obtain ⟨_, _, _, _, _, _, h, _⟩ := h
  simp only [List.cons.injEq, Value.int.injEq, Value.slice.injEq, Value.bool.injEq, true_and, and_true, List.length_nil] at h
  obtain ⟨h1, h2, h3, h4, h5, h6, h7, h8⟩ := h
  exact ⟨h1, h2, h3, h4.2.1, h5.2.1, h6, h7, h8.2.1⟩
/-- What check answers at a command, at commands. -/
def CkC (c : Cmd) : Prop := ∀ (d : Int) (vs : List Value) (w : World), 0 ≤ d → d ≤ 7 → CmdV w c vs →
  Calls Tryd.prog 42 #[.agg vs.toArray, .int .i64 d] w fun e w' => e = .returned (.int .i64 (chkC c d)) ∧ Below w.heap.size w w'
def CkCs (l : List Cmd) : Prop := ∀ (d : Int) (A : Option Addr) (cp : Nat) (w : World), 0 ≤ d → d ≤ 7 → CmdsAt w l A → l.length ≤ 1000000 →
  Calls Tryd.prog 27 #[.slice A l.length cp, .int .i64 d] w fun e w' => e = .returned (.int .i64 (chkCs l d)) ∧ Below w.heap.size w w'
end Go.Proofs.YtgmnoemkdigafaaDoor
