/- Plain words: what the commands of the statements do. -/
import Derived.Test.YtokeblpdaomagaaDoorLmPlain
import Derived.Test.YtokeblpdaomagaaDoorWhoManyPlain
namespace Go.Proofs.YtokeblpdaomagaaDoor
open Go.RowKit
set_option linter.unusedVariables false

theorem restR_mkS (l : List UInt8) (word : ByteArray) : restR (mkS l) word = if l.length < word.size then none else if (l.take word.size).map smallB = (bs word).map smallB then some (mkS (l.drop word.size)) else none := by
  have hx : ∀ a b, (mkS l).extract a b = mkS ((l.drop a).take (b - a)) := fun a b => by
    apply bs_inj
    rw [bs_mkS]
    have h := Lib.extract_toList (mkS l) a b
    rw [toList_bs] at h
    exact h
  unfold restR
  rw [mkS_size, hx, hx]
  by_cases h1 : l.length < word.size
  · rw [if_pos h1, if_pos h1]
  · rw [if_neg h1, if_neg h1]
    have e : ((foldB (mkS ((l.drop 0).take (word.size - 0)))).toList == (foldB word).toList) = decide ((l.take word.size).map smallB = (bs word).map smallB) := by
      rw [toList_bs, toList_bs]
      have e1 : bs (foldB (mkS ((l.drop 0).take (word.size - 0)))) = (l.take word.size).map smallB := rfl
      have e2 : bs (foldB word) = (bs word).map smallB := rfl
      rw [e1, e2]
      have hd : ∀ (A B : List UInt8), (A == B) = decide (A = B) := fun A B => by by_cases h : A = B <;> simp [h]
      exact hd _ _
    rw [e]
    have e3 : (l.drop word.size).take (l.length - word.size) = l.drop word.size := List.take_of_length_le (by rw [List.length_drop]; omega)
    rw [e3]
    by_cases h2 : (l.take word.size).map smallB = (bs word).map smallB
    · rw [if_pos h2, if_pos (by simpa using h2)]
    · rw [if_neg h2, if_neg (by simpa using h2)]
/-- An address in brackets. -/
def angL (a : Adr) : List UInt8 := 60 :: (bs a.loc ++ 64 :: (bs a.dom ++ [62]))
theorem angL_len (a : Adr) : (angL a).length = a.loc.size + a.dom.size + 3 := by
  simp only [angL, List.length_cons, List.length_append, bs_len, List.length_nil]; omega
theorem addrR_ang (l d : ByteArray) : addrR (mkS (angL (adrOf l d))) = (adrOf l d, true) := by
  have hp : ∀ N, adrL (N + 1) true (angL (adrOf l d)) = some (adrOf l d, []) := fun N => by
    have h := adrL_bracket N true ⟨l, d, ⟨#[]⟩⟩ []
    have e : angL (adrOf l d) = 60 :: (Per.a ⟨l, d, ⟨#[]⟩⟩ ++ 62 :: []) := by
      show 60 :: (bs (adrOf l d).loc ++ 64 :: (bs (adrOf l d).dom ++ [62])) = 60 :: ((bs (adrOf l d).loc ++ 64 :: bs (adrOf l d).dom) ++ [62])
      simp
    rw [e]
    exact h
  have hl : listL ((mkS (angL (adrOf l d))).size + 1) ((mkS (angL (adrOf l d))).size + 1) (bs (mkS (angL (adrOf l d)))) = some [adrOf l d] := by
    rw [bs_mkS, mkS_size]
    unfold listL
    rw [hp]
    rfl
  unfold addrR
  rw [hl]
  have hc := adrOf_check l d
  have ha : adrT (adrOf l d) = (adrOf l d).loc ++ mkS [64] ++ (adrOf l d).dom := by
    unfold adrT partA
    rw [if_neg (by rw [hc]; simp), if_pos rfl]
  show (adrOf l d, (mkS (angL (adrOf l d))).toList == ((⟨#[60]⟩ : ByteArray) ++ adrT (adrOf l d) ++ ⟨#[62]⟩).toList) = _
  rw [ha, toList_bs, toList_bs, bs_append, bs_append, bs_append, bs_append, bs_mkS, bs_mkS]
  have e : (bs (⟨#[60]⟩ : ByteArray) ++ (bs (adrOf l d).loc ++ [64] ++ bs (adrOf l d).dom) ++ bs (⟨#[62]⟩ : ByteArray)) = angL (adrOf l d) := by
    show [60] ++ (bs (adrOf l d).loc ++ [64] ++ bs (adrOf l d).dom) ++ [62] = _
    simp [angL]
  rw [e]
  simp
def mailL : List UInt8 := [77, 65, 73, 76, 32, 70, 82, 79, 77, 58]
def rcptU : List UInt8 := [82, 67, 80, 84, 32, 84, 79, 58]
def rcptl : List UInt8 := [114, 99, 112, 116, 32, 116, 111, 58]
theorem mail_rest (t : List UInt8) : restR (mkS (mailL ++ t)) lhlo = none ∧ restR (mkS (mailL ++ t)) mailF = some (mkS t) := by
  constructor
  · rw [restR_mkS, if_neg (by rw [List.length_append]; show ¬ 10 + t.length < 5; omega), if_neg]
    show ¬ ([77, 65, 73, 76, 32].map smallB = [76, 72, 76, 79, 32].map smallB)
    decide
  · rw [restR_mkS, if_neg (by rw [List.length_append]; show ¬ 10 + t.length < 10; omega), if_pos (by rfl)]
    rfl
theorem rcpt_rest (R : List UInt8) (hR : R = rcptU ∨ R = rcptl) (t : List UInt8) (ht : 2 ≤ t.length) : restR (mkS (R ++ t)) lhlo = none ∧ restR (mkS (R ++ t)) mailF = none ∧ restR (mkS (R ++ t)) rcptT = some (mkS t) := by
  have hl : R.length = 8 := by rcases hR with rfl | rfl <;> rfl
  refine ⟨?_, ?_, ?_⟩
  · rw [restR_mkS, if_neg (by rw [List.length_append, hl]; show ¬ 8 + t.length < 5; omega), if_neg]
    rcases hR with rfl | rfl
    · show ¬ ([82, 67, 80, 84, 32].map smallB = [76, 72, 76, 79, 32].map smallB)
      decide
    · show ¬ ([114, 99, 112, 116, 32].map smallB = [76, 72, 76, 79, 32].map smallB)
      decide
  · rw [restR_mkS, if_neg (by rw [List.length_append, hl]; show ¬ 8 + t.length < 10; omega), if_neg]
    intro h
    have h2 := congrArg (fun l => l.head?) h
    rcases hR with rfl | rfl
    · exact absurd h2 (by show ¬ (some (smallB 82) = some (smallB 77)); decide)
    · exact absurd h2 (by show ¬ (some (smallB 114) = some (smallB 77)); decide)
  · rcases hR with rfl | rfl
    · rw [restR_mkS, if_neg (by rw [List.length_append, hl]; show ¬ 8 + t.length < 8; omega), if_pos (by show ([82, 67, 80, 84, 32, 84, 79, 58] : List UInt8).map smallB = ([82, 67, 80, 84, 32, 84, 79, 58] : List UInt8).map smallB; rfl)]
      rfl
    · rw [restR_mkS, if_neg (by rw [List.length_append, hl]; show ¬ 8 + t.length < 8; omega), if_pos (by show ([114, 99, 112, 116, 32, 116, 111, 58] : List UInt8).map smallB = ([82, 67, 80, 84, 32, 84, 79, 58] : List UInt8).map smallB; decide)]
      rfl
theorem cmd_mail (x : Ses) (l d : ByteArray) (known : List ByteArray) : cmdR x (mkS (mailL ++ angL (adrOf l d))) known = if x.step ≠ 1 then (503, x) else (250, { x with step := 2, frm := adrOf l d }) := by
  obtain ⟨h1, h2⟩ := mail_rest (angL (adrOf l d))
  have hs := adrOf_size l d
  unfold cmdR
  rw [if_neg (by rw [mkS_size, List.length_append, angL_len]; show ¬ 300 < 10 + _; omega), h1, h2]
  show mailR x _ = _
  unfold mailR
  rw [addrR_ang, if_neg (by simp : ¬ (true = false))]
theorem cmd_rcpt (R : List UInt8) (hR : R = rcptU ∨ R = rcptl) (x : Ses) (l d : ByteArray) (known : List ByteArray) (hk : known = [(adrOf l d).loc]) : cmdR x (mkS (R ++ angL (adrOf l d))) known =
    if x.step ≠ 2 ∧ x.step ≠ 3 then (503, x) else if adrOf l d ∈ x.rcp then (250, x) else if x.rcp.length = 5 then (452, x) else (250, { x with step := 3, rcp := x.rcp ++ [adrOf l d] }) := by
  have hs := adrOf_size l d
  obtain ⟨h1, h2, h3⟩ := rcpt_rest R hR (angL (adrOf l d)) (by rw [angL_len]; omega)
  have hl : R.length = 8 := by rcases hR with rfl | rfl <;> rfl
  unfold cmdR
  rw [if_neg (by rw [mkS_size, List.length_append, angL_len, hl]; omega), h1, h2, h3]
  show rcptR x _ known = _
  unfold rcptR
  have hc : Lib.containsS known (adrOf l d).loc = true := by rw [Lib.containsS_iff, hk]; simp
  rw [addrR_ang, if_neg (by simp : ¬ (true = false)), hc, if_neg (by simp : ¬ (true = false))]
def lData : ByteArray := ⟨#[68, 65, 84, 65]⟩
theorem cmd_data (x : Ses) (known : List ByteArray) : cmdR x lData known = if x.step ≠ 3 then (503, x) else (354, { x with step := 4 }) := by
  have h : restR lData lhlo = none ∧ restR lData mailF = none ∧ restR lData rcptT = none ∧ foldB lData = wData := by decide +kernel
  unfold cmdR
  rw [if_neg (by decide), h.1, h.2.1, h.2.2.1]
  show wordR x lData = _
  unfold wordR
  rw [if_pos h.2.2.2]
/-- A greeting that may be. -/
theorem cmd_lhlo (x : Ses) (known : List ByteArray) (line name : ByteArray) (h : restR line lhlo = some name) (hs : line.size ≤ 300) (hc : checkA ⟨⟨#[120]⟩, name⟩ = 0) : cmdR x line known = (250, readyS 1) := by
  unfold cmdR
  rw [if_neg (by omega), h]
  show (if checkA ⟨⟨#[120]⟩, name⟩ ≠ 0 then (501, x) else (250, readyS 1)) = _
  rw [if_neg (by simpa using hc)]
def lLhloXY : ByteArray := ⟨#[76, 72, 76, 79, 32, 120, 46, 121]⟩
def lLhloA : ByteArray := ⟨#[108, 104, 108, 111, 32, 97]⟩
theorem cmd_lhloXY (x : Ses) (known : List ByteArray) : cmdR x lLhloXY known = (250, readyS 1) := cmd_lhlo x known lLhloXY ⟨#[120, 46, 121]⟩ (by decide +kernel) (by decide) (by decide +kernel)
theorem cmd_lhloA (x : Ses) (known : List ByteArray) : cmdR x lLhloA known = (250, readyS 1) := cmd_lhlo x known lLhloA ⟨#[97]⟩ (by decide +kernel) (by decide) (by decide +kernel)
/-- The sessions on the way to a letter. -/
def rdyS (a b : Adr) (k : Nat) : Ses := match k with
  | 0 => readyS 0
  | 1 => readyS 1
  | 2 => ⟨2, a, [], ⟨#[]⟩, false⟩
  | 3 => ⟨3, a, [b], ⟨#[]⟩, false⟩
  | _ => ⟨4, a, [b], ⟨#[]⟩, false⟩
def rdyL (a b : Adr) : List ByteArray := [lLhloXY, mkS (mailL ++ angL a), mkS (rcptl ++ angL b), lData]
def rdyC : List Int := [250, 250, 250, 354]
theorem rdy_line (p q r s : ByteArray) (k : Nat) (hk : k < 4) : lineR (rdyS (adrOf p q) (adrOf r s) k) [(adrOf r s).loc] ((rdyL (adrOf p q) (adrOf r s)).getD k ⟨#[]⟩) = (rdyS (adrOf p q) (adrOf r s) (k + 1), rdyC.getD k 0, false) := by
  have hst : ∀ x : Ses, x.step ≠ 5 → x.step ≠ 4 → ∀ K l, lineR x K l = ((cmdR x l K).2, (cmdR x l K).1, false) := fun x h1 h2 K l => by unfold lineR; rw [if_neg h1, if_pos h2]
  rcases (show k = 0 ∨ k = 1 ∨ k = 2 ∨ k = 3 by omega) with rfl | rfl | rfl | rfl
  · rw [hst _ (by show (0 : Int) ≠ 5; decide) (by show (0 : Int) ≠ 4; decide)]
    show ((cmdR _ lLhloXY _).2, (cmdR _ lLhloXY _).1, false) = _
    rw [cmd_lhloXY]; rfl
  · rw [hst _ (by show (1 : Int) ≠ 5; decide) (by show (1 : Int) ≠ 4; decide)]
    show ((cmdR _ (mkS (mailL ++ angL (adrOf p q))) _).2, (cmdR _ (mkS (mailL ++ angL (adrOf p q))) _).1, false) = _
    rw [cmd_mail, if_neg (by show ¬ ((1 : Int) ≠ 1); decide)]; rfl
  · rw [hst _ (by show (2 : Int) ≠ 5; decide) (by show (2 : Int) ≠ 4; decide)]
    show ((cmdR _ (mkS (rcptl ++ angL (adrOf r s))) _).2, (cmdR _ (mkS (rcptl ++ angL (adrOf r s))) _).1, false) = _
    rw [cmd_rcpt rcptl (.inr rfl) _ _ _ _ rfl, if_neg (by show ¬ ((2 : Int) ≠ 2 ∧ (2 : Int) ≠ 3); decide), if_neg (by show ¬ (_ ∈ ([] : List Adr)); simp), if_neg (by show ¬ (0 = 5); decide)]; rfl
  · rw [hst _ (by show (3 : Int) ≠ 5; decide) (by show (3 : Int) ≠ 4; decide)]
    show ((cmdR _ lData _).2, (cmdR _ lData _).1, false) = _
    rw [cmd_data, if_neg (by show ¬ ((3 : Int) ≠ 3); decide)]; rfl
theorem vld_rdy (p q r s : ByteArray) : ∀ k, k ≤ 4 → VldS (rdyS (adrOf p q) (adrOf r s) k)
  | 0, _ => vld_ready 0 (.inl ⟨by decide, by decide⟩)
  | k + 1, h => by
    have h1 := vld_line (vld_rdy p q r s k (by omega)) [(adrOf r s).loc] ((rdyL (adrOf p q) (adrOf r s)).getD k ⟨#[]⟩)
    rw [rdy_line p q r s k (by omega)] at h1
    exact h1
end Go.Proofs.YtokeblpdaomagaaDoor
